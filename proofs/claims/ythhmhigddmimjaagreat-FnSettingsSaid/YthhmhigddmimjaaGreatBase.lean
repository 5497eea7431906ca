import Derived.WalkKit
import Derived.Lib.Hide
import Derived.Below
import Derived.Laws.OwnMore
import Derived.Laws.Rows
import Derived.Deep.Draws
import Derived.OwnWalk
/-
  Words for memory, over any program: 'Gr' (the world has at most grown), 'Sl' (a slice value reads as cells), owned rows; plain lemmas.
-/
namespace Go.Proofs.YthhmhigddmimjaaGreat
open Go.RowKit

theorem ret_int {k : IntKind} {a b : Int} (h : a = b) : Ending.returned (.int k a) = .returned (.int k b) := by rw [h]
theorem ret_bool {a b : Bool} (h : a = b) : Ending.returned (.bool a) = .returned (.bool b) := by rw [h]

/-- What was there when a was is there in w, unturned. -/
def Gr (a w : World) : Prop := Below a.heap.size a w

section
variable {a b c w w' : World}
theorem Gr.refl (a : World) : Gr a a := Below.refl _ _
theorem Gr.size (h : Gr a w) : a.heap.size ≤ w.heap.size := Below.size h
theorem Gr.trans (h : Gr a b) (h' : Gr b c) : Gr a c := Below.trans h (Below.mono h' h.size)
theorem Gr.alloc (h : Gr a w) (o : Obj) : Gr a (w.alloc o) := Below.alloc h h.size o
theorem Gr.drew (h : Gr a w) : Gr a w.drew := Below.drew h
theorem Gr.drewN (h : Gr a w) (n : Nat) : Gr a (w.drewN n) := by
  have hb : Below _ a w := h
  exact (⟨hb.os, hb.tape, hb.output, hb.size, hb.block⟩ : Below _ a (w.drewN n))
theorem Gr.setCell (h : Gr a w) {p : Addr} (hp : a.heap.size ≤ p.block) (u : Value) : Gr a (w.setCell p u) := Below.setCell h hp u
theorem Gr.grown {row : Option Nat} (h : Gr a w) (hg : w.grownBy w' row) (hr : ∀ k, row = some k → a.heap.size ≤ k) : Gr a w' := Below.grown h hg h.size hr
theorem Gr.cell (h : Gr a w) {p : Addr} (hp : p.block < a.heap.size) : w.cell? p = a.cell? p := Below.cell h hp
theorem Gr.frozen (h : Gr a w) {p : Addr} (hp : p.block < a.heap.size) : w.frozen? p = a.frozen? p := Below.frozen h hp
theorem Gr.below (h : Gr a w) : Below a.heap.size a w := h
theorem lt_of_cell {p : Addr} {v : Value} (h : w.cell? p = some v) : p.block < w.heap.size := by
  rcases Nat.lt_or_ge p.block w.heap.size with hlt | hge
  · exact hlt
  · simp [World.cell?, Array.getElem?_eq_none hge] at h
theorem Gr.has (h : Gr a w) {p : Addr} {v : Value} (hc : a.cell? p = some v) : w.cell? p = some v := (h.cell (lt_of_cell hc)).trans hc
theorem Gr.of_grown (hg : w.grownBy w' none) : Gr w w' := (Gr.refl w).grown hg (fun _ e => by cases e)
end

/-- The cells xs lie in block b from offset o on. -/
def Row (w : World) (b o : Nat) (xs : List Value) : Prop := ∀ j u, xs[j]? = some u → w.cell? ⟨b, o + j, none⟩ = some u

/-- The slice value '.slice A n _' reads as the cells xs, 'size' cells an element. -/
def Sl (w : World) (size : Nat) (A : Option Addr) (n : Nat) (xs : List Value) : Prop :=
  xs.length = n * size ∧ (0 < n → ∃ b o, A = some ⟨b, o, none⟩ ∧ b < w.heap.size ∧ Row w b o xs)

section
variable {w w' : World} {size n : Nat} {A : Option Addr} {xs : List Value}
theorem Sl.gr (h : Sl w size A n xs) (g : Gr w w') : Sl w' size A n xs :=
  ⟨h.1, fun hn => by
    obtain ⟨b, o, e, hb, hc⟩ := h.2 hn
    exact ⟨b, o, e, Nat.lt_of_lt_of_le hb g.size, fun j u hu => g.has (hc j u hu)⟩⟩
theorem Sl.zero (A : Option Addr) : Sl w size A 0 [] := ⟨by simp, fun h => absurd h (by omega)⟩
theorem Sl.of_own {base : Nat} {e : TypeId} {c : Nat} (h : w.ownsRow base e size (.slice A n c) n xs) : Sl w size A n xs := by
  refine ⟨h.1, fun hn => ?_⟩
  rcases h.2 with ⟨_, h0⟩ | ⟨g, cap, cur, hv, _, hk, hc, _, hs, ht⟩
  · omega
  · injection hv with hA _ _
    subst hA
    have hlt : g < w.heap.size := by
      rcases Nat.lt_or_ge g w.heap.size with hlt | hge
      · exact hlt
      · rw [Array.getElem?_eq_none hge] at hk; cases hk
    refine ⟨g, 0, rfl, hlt, fun j u hu => ?_⟩
    rw [Nat.zero_add, cell_of_row w g j cur e (0, 0) hk, ← hu, ← ht, List.getElem?_take, if_pos, Array.getElem?_toList]
    have := (List.getElem?_eq_some_iff.1 hu).1
    rw [h.1] at this
    exact this
end

/-- An owned row is kept while the world grows. -/
theorem own_gr {w w' : World} {base : Nat} {e : TypeId} {size n : Nat} {v : Value} {xs : List Value} (h : w.ownsRow base e size v n xs) (g : Gr w w') : w'.ownsRow base e size v n xs := by
  refine ⟨h.1, ?_⟩
  rcases h.2 with h2 | ⟨k, cap, cur, hv, hb, hk, r⟩
  · exact .inl h2
  · have hlt : k < w.heap.size := by
      rcases Nat.lt_or_ge k w.heap.size with hlt | hge
      · exact hlt
      · rw [Array.getElem?_eq_none hge] at hk; cases hk
    exact .inr ⟨k, cap, cur, hv, hb, (g.below.block k hlt).trans hk, r⟩
theorem own_base {w : World} {base base' : Nat} {e : TypeId} {size n : Nat} {v : Value} {xs : List Value} (h : w.ownsRow base e size v n xs) (hb : base' ≤ base) : w.ownsRow base' e size v n xs := by
  refine ⟨h.1, ?_⟩
  rcases h.2 with h2 | ⟨k, cap, cur, hv, hk, r⟩
  · exact .inl h2
  · exact .inr ⟨k, cap, cur, hv, Nat.le_trans hb hk, r⟩
theorem own_cap {w : World} {base : Nat} {e : TypeId} {size n c : Nat} {A : Option Addr} {xs : List Value} (h : w.ownsRow base e size (.slice A n c) n xs) : n ≤ c ∧ c ≤ maxLen := by
  rcases h.2 with ⟨hv, hn⟩ | ⟨k, cap, cur, hv, hb, hk, hc, hm, r⟩
  · injection hv with _ _ h3; subst h3; subst hn; exact ⟨Nat.le_refl _, by unfold maxLen; omega⟩
  · injection hv with _ _ h3; subst h3; exact ⟨hc, hm⟩

/-- Lists of elements of k cells each. -/
theorem flat_length {α : Type} (f : α → List Value) (k : Nat) (hf : ∀ x, (f x).length = k) (l : List α) : (l.flatMap f).length = l.length * k := by
  induction l with
  | nil => simp
  | cons x l ih => simp [hf, ih, Nat.add_mul]; omega
theorem flat_get {α : Type} (f : α → List Value) (k : Nat) (hf : ∀ x, (f x).length = k) (l : List α) (i j : Nat) (hj : j < k) : (l.flatMap f)[i * k + j]? = (l[i]?).bind fun x => (f x)[j]? := by
  induction l generalizing i with
  | nil => simp
  | cons x l ih =>
    rw [List.flatMap_cons]
    cases i with
    | zero => simp [List.getElem?_append, hf, hj]
    | succ i =>
      rw [List.getElem?_append_right (by rw [hf, Nat.add_mul]; omega), hf]
      have e : (i + 1) * k + j - k = i * k + j := by rw [Nat.add_mul]; omega
      rw [e, ih]
      simp
theorem Sl.at_ {w : World} {size n : Nat} {A : Option Addr} {α : Type} {f : α → List Value} {l : List α} (h : Sl w size A n (l.flatMap f)) (hf : ∀ x, (f x).length = size) {k : Nat} {x : α} (hk : l[k]? = some x) (h0 : 0 < size) :
    ∃ b o, A = some ⟨b, o, none⟩ ∧ b < w.heap.size ∧ k < n ∧ ∀ j u, (f x)[j]? = some u → w.cell? ⟨b, o + k * size + j, none⟩ = some u := by
  have hl := flat_length f size hf l
  have hn : l.length = n := Nat.eq_of_mul_eq_mul_right h0 (by rw [← hl, h.1])
  have hkl : k < l.length := (List.getElem?_eq_some_iff.1 hk).1
  obtain ⟨b, o, e, hb, hr⟩ := h.2 (by omega)
  refine ⟨b, o, e, hb, by omega, fun j u hu => ?_⟩
  have hj : j < size := by rw [← hf x]; exact (List.getElem?_eq_some_iff.1 hu).1
  have := hr (k * size + j) u (by rw [flat_get f size hf l k j hj, hk]; exact hu)
  rw [← Nat.add_assoc] at this
  exact this
theorem Sl.len {w : World} {size n : Nat} {A : Option Addr} {α : Type} {f : α → List Value} {l : List α} (h : Sl w size A n (l.flatMap f)) (hf : ∀ x, (f x).length = size) (h0 : 0 < size) : l.length = n :=
  Nat.eq_of_mul_eq_mul_right h0 (by rw [← flat_length f size hf l, h.1])
end Go.Proofs.YthhmhigddmimjaaGreat
/-
  The program's structs as plain data, and how their rows lie in memory. Printed by gen.py.
-/
namespace Go.Proofs.YthhmhigddmimjaaGreat
open Go.RowKit

theorem own_form {w : World} {base : Nat} {e : TypeId} {size n c : Nat} {A : Option Addr} {xs : List Value} (h : w.ownsRow base e size (.slice A n c) n xs) (hn : 0 < n) : ∃ g, A = some ⟨g, 0, none⟩ ∧ base ≤ g ∧ g < w.heap.size := by
  rcases h.2 with ⟨_, h0⟩ | ⟨g, cap, cur, hv, hb, hk, _⟩
  · omega
  · injection hv with hA _ _
    subst hA
    refine ⟨g, rfl, hb, ?_⟩
    rcases Nat.lt_or_ge g w.heap.size with hlt | hge
    · exact hlt
    · rw [Array.getElem?_eq_none hge] at hk; cases hk
theorem own_at {w : World} {base : Nat} {e : TypeId} {size n c g : Nat} {α : Type} {f : α → List Value} {ys : List α} (h : w.ownsRow base e size (.slice (some ⟨g, 0, none⟩) n c) n (ys.flatMap f)) (hf : ∀ x, (f x).length = size) {k : Nat} {x : α} (hk : ys[k]? = some x) (h0 : 0 < size) :
    ∀ j u, (f x)[j]? = some u → w.cell? ⟨g, k * size + j, none⟩ = some u := by
  intro j u hu
  have hj : j < size := by rw [← hf x]; exact (List.getElem?_eq_some_iff.1 hu).1
  have hkl : k < ys.length := (List.getElem?_eq_some_iff.1 hk).1
  have hl := h.1
  rw [flat_length f size hf] at hl
  have hn : ys.length = n := Nat.eq_of_mul_eq_mul_right h0 hl
  have hlt : k * size + j < n * size := by
    have : (k + 1) * size ≤ n * size := Nat.mul_le_mul_right _ (by omega)
    rw [Nat.add_mul] at this
    omega
  rw [h.cellAt _ hlt, flat_get f size hf ys k j hj, hk]
  exact hu
theorem own_len {w : World} {base : Nat} {e : TypeId} {size n : Nat} {v : Value} {α : Type} {f : α → List Value} {ys : List α} (h : w.ownsRow base e size v n (ys.flatMap f)) (hf : ∀ x, (f x).length = size) (h0 : 0 < size) : ys.length = n :=
  Nat.eq_of_mul_eq_mul_right h0 (by rw [← flat_length f size hf ys, h.1])
/-- The first k elements of l, and zeros up to n. -/
def fillTo {α : Type} (z : α) (l : List α) (n k : Nat) : List α := l.take k ++ List.replicate (n - k) z
/-- f 0, .., f (k - 1), and then what ys has. -/
def overTo {α : Type} (f : Nat → α) (ys : List α) (k : Nat) : List α := (List.range k).map f ++ ys.drop k
theorem overTo_zero {α : Type} (f : Nat → α) (ys : List α) : overTo f ys 0 = ys := by simp [overTo]
theorem overTo_full {α : Type} (f : Nat → α) (ys : List α) : overTo f ys ys.length = (List.range ys.length).map f := by simp [overTo]
theorem overTo_get {α : Type} (f : Nat → α) (ys : List α) (k : Nat) : (overTo f ys k)[k]? = ys[k]? := by
  rw [overTo, List.getElem?_append_right (by simp)]; simp
theorem overTo_set {α : Type} (f : Nat → α) (ys : List α) {k : Nat} {x : α} (hk : k < ys.length) (hx : x = f k) : (overTo f ys k).set k x = overTo f ys (k + 1) := by
  subst hx
  unfold overTo
  have e : k - ((List.range k).map f).length = 0 := by simp
  rw [List.set_append_right _ _ (by simp), e, List.range_succ, List.map_append, List.drop_eq_getElem_cons hk, List.set_cons_zero]
  simp

/-- Rows of integers. -/
def ints (zs : List Int) : List Value := zs.map (Value.int .i64)
theorem ints_length (zs : List Int) : (ints zs).length = zs.length := by simp [ints]
theorem Sl.int {w : World} {A : Option Addr} {n k : Nat} {zs : List Int} {x : Int} (h : Sl w 1 A n (ints zs)) (hk : zs[k]? = some x) :
    ∃ b o, A = some ⟨b, o, none⟩ ∧ b < w.heap.size ∧ w.cell? ⟨b, o + k, none⟩ = some (.int .i64 x) := by
  have hkl : k < zs.length := (List.getElem?_eq_some_iff.1 hk).1
  have h1 := h.1
  rw [ints_length] at h1
  obtain ⟨b, o, e, hb, hr⟩ := h.2 (by omega)
  exact ⟨b, o, e, hb, hr k _ (by simp [ints, hk])⟩
theorem Sl.ilen {w : World} {A : Option Addr} {n : Nat} {zs : List Int} (h : Sl w 1 A n (ints zs)) : zs.length = n := by
  have h1 := h.1; rw [ints_length] at h1; omega
theorem own_ilen {w : World} {base : Nat} {e : TypeId} {n : Nat} {v : Value} {zs : List Int} (h : w.ownsRow base e 1 v n (ints zs)) : zs.length = n := by
  have h1 := h.1; rw [ints_length] at h1; omega
theorem own_int {w : World} {base : Nat} {e : TypeId} {n c g : Nat} {zs : List Int} (h : w.ownsRow base e 1 (.slice (some ⟨g, 0, none⟩) n c) n (ints zs)) {k : Nat} {x : Int} (hk : zs[k]? = some x) :
    w.cell? ⟨g, k, none⟩ = some (.int .i64 x) ∧ w.frozen? ⟨g, k, none⟩ = false := by
  have hkl : k < zs.length := (List.getElem?_eq_some_iff.1 hk).1
  have := own_ilen h
  exact ⟨by rw [h.cellAt _ (by omega)]; simp [ints, hk], h.frozenAt k⟩
theorem own_set_int {w : World} {base : Nat} {e : TypeId} {n c g : Nat} {zs : List Int} (h : w.ownsRow base e 1 (.slice (some ⟨g, 0, none⟩) n c) n (ints zs)) (k : Nat) (x : Int) :
    (w.setCell ⟨g, k, none⟩ (.int .i64 x)).ownsRow base e 1 (.slice (some ⟨g, 0, none⟩) n c) n (ints (zs.set k x)) ∧ w.grownBy (w.setCell ⟨g, k, none⟩ (.int .i64 x)) (some g) := by
  have := h.stored k (.int .i64 x)
  rw [ints, ← List.map_set] at this
  exact this
theorem made_ints (n : Nat) : (madeCells #[Value.int .i64 0] (n * 1)).toList = ints (List.replicate n 0) := by
  rw [Nat.mul_one, toList_madeCells_one]; simp [ints]
theorem grown_trans {a b c : World} {row : Option Nat} (h : a.grownBy b row) (k : b.grownBy c row) : a.grownBy c row :=
  ⟨k.os.trans h.os, k.tape.trans h.tape, k.output.trans h.output, Nat.le_trans h.size k.size, fun i hi hne => (k.block i (Nat.lt_of_lt_of_le hi h.size) hne).trans (h.block i hi hne)⟩
structure GNode where
  name : ByteArray
  low : Int
  high : Int
def GNode.cells (x : GNode) : List Value := [.string x.name, .int .i64 x.low, .int .i64 x.high]
theorem GNode.cells_len (x : GNode) : x.cells.length = 3 := rfl
def GNode.zero : GNode := ⟨ByteArray.empty, 0, 0⟩
theorem Sl.nd {w : World} {A : Option Addr} {n k : Nat} {l : List GNode} {x : GNode} (h : Sl w 3 A n (l.flatMap GNode.cells)) (hk : l[k]? = some x) :
    ∃ b o, A = some ⟨b, o, none⟩ ∧ b < w.heap.size ∧ w.cell? ⟨b, o + k * 3, none⟩ = some (.string x.name) ∧ w.cell? ⟨b, o + k * 3 + 1, none⟩ = some (.int .i64 x.low) ∧ w.cell? ⟨b, o + k * 3 + 2, none⟩ = some (.int .i64 x.high) := by
  obtain ⟨b, o, e, hb, _, h⟩ := h.at_ GNode.cells_len hk (by omega)
  exact ⟨b, o, e, hb, h 0 _ rfl, h 1 _ rfl, h 2 _ rfl⟩
theorem own_nd {w : World} {base : Nat} {e : TypeId} {n c g k : Nat} {ys : List GNode} {x : GNode} (h : w.ownsRow base e 3 (.slice (some ⟨g, 0, none⟩) n c) n (ys.flatMap GNode.cells)) (hk : ys[k]? = some x) :
    w.cell? ⟨g, k * 3, none⟩ = some (.string x.name) ∧ w.cell? ⟨g, k * 3 + 1, none⟩ = some (.int .i64 x.low) ∧ w.cell? ⟨g, k * 3 + 2, none⟩ = some (.int .i64 x.high) ∧ w.frozen? ⟨g, k * 3, none⟩ = false ∧ w.frozen? ⟨g, k * 3 + 1, none⟩ = false ∧ w.frozen? ⟨g, k * 3 + 2, none⟩ = false := by
  have a := own_at h GNode.cells_len hk (by omega)
  exact ⟨a 0 _ rfl, a 1 _ rfl, a 2 _ rfl, h.frozenAt _, h.frozenAt _, h.frozenAt _⟩
structure GPipe where
  src : Int
  dst : Int
  k : Int
  vol : Int
  lim : Int
def GPipe.cells (x : GPipe) : List Value := [.int .i64 x.src, .int .i64 x.dst, .int .i64 x.k, .int .i64 x.vol, .int .i64 x.lim]
theorem GPipe.cells_len (x : GPipe) : x.cells.length = 5 := rfl
def GPipe.zero : GPipe := ⟨0, 0, 0, 0, 0⟩
theorem Sl.pp {w : World} {A : Option Addr} {n k : Nat} {l : List GPipe} {x : GPipe} (h : Sl w 5 A n (l.flatMap GPipe.cells)) (hk : l[k]? = some x) :
    ∃ b o, A = some ⟨b, o, none⟩ ∧ b < w.heap.size ∧ w.cell? ⟨b, o + k * 5, none⟩ = some (.int .i64 x.src) ∧ w.cell? ⟨b, o + k * 5 + 1, none⟩ = some (.int .i64 x.dst) ∧ w.cell? ⟨b, o + k * 5 + 2, none⟩ = some (.int .i64 x.k) ∧ w.cell? ⟨b, o + k * 5 + 3, none⟩ = some (.int .i64 x.vol) ∧ w.cell? ⟨b, o + k * 5 + 4, none⟩ = some (.int .i64 x.lim) := by
  obtain ⟨b, o, e, hb, _, h⟩ := h.at_ GPipe.cells_len hk (by omega)
  exact ⟨b, o, e, hb, h 0 _ rfl, h 1 _ rfl, h 2 _ rfl, h 3 _ rfl, h 4 _ rfl⟩
theorem own_pp {w : World} {base : Nat} {e : TypeId} {n c g k : Nat} {ys : List GPipe} {x : GPipe} (h : w.ownsRow base e 5 (.slice (some ⟨g, 0, none⟩) n c) n (ys.flatMap GPipe.cells)) (hk : ys[k]? = some x) :
    w.cell? ⟨g, k * 5, none⟩ = some (.int .i64 x.src) ∧ w.cell? ⟨g, k * 5 + 1, none⟩ = some (.int .i64 x.dst) ∧ w.cell? ⟨g, k * 5 + 2, none⟩ = some (.int .i64 x.k) ∧ w.cell? ⟨g, k * 5 + 3, none⟩ = some (.int .i64 x.vol) ∧ w.cell? ⟨g, k * 5 + 4, none⟩ = some (.int .i64 x.lim) ∧ w.frozen? ⟨g, k * 5, none⟩ = false ∧ w.frozen? ⟨g, k * 5 + 1, none⟩ = false ∧ w.frozen? ⟨g, k * 5 + 2, none⟩ = false ∧ w.frozen? ⟨g, k * 5 + 3, none⟩ = false ∧ w.frozen? ⟨g, k * 5 + 4, none⟩ = false := by
  have a := own_at h GPipe.cells_len hk (by omega)
  exact ⟨a 0 _ rfl, a 1 _ rfl, a 2 _ rfl, a 3 _ rfl, a 4 _ rfl, h.frozenAt _, h.frozenAt _, h.frozenAt _, h.frozenAt _, h.frozenAt _⟩
structure GTr where
  entry : Int
  exit : Int
  amount : Int
  cls : Int
def GTr.cells (x : GTr) : List Value := [.int .i64 x.entry, .int .i64 x.exit, .int .i64 x.amount, .int .i64 x.cls]
theorem GTr.cells_len (x : GTr) : x.cells.length = 4 := rfl
def GTr.zero : GTr := ⟨0, 0, 0, 0⟩
structure GRd where
  node : Int
  amount : Int
def GRd.cells (x : GRd) : List Value := [.int .i64 x.node, .int .i64 x.amount]
theorem GRd.cells_len (x : GRd) : x.cells.length = 2 := rfl
def GRd.zero : GRd := ⟨0, 0⟩
structure GOrd where
  shipper : Int
  node : Int
  amount : Int
  cls : Int
def GOrd.cells (x : GOrd) : List Value := [.int .i64 x.shipper, .int .i64 x.node, .int .i64 x.amount, .int .i64 x.cls]
theorem GOrd.cells_len (x : GOrd) : x.cells.length = 4 := rfl
def GOrd.zero : GOrd := ⟨0, 0, 0, 0⟩
theorem Sl.ord {w : World} {A : Option Addr} {n k : Nat} {l : List GOrd} {x : GOrd} (h : Sl w 4 A n (l.flatMap GOrd.cells)) (hk : l[k]? = some x) :
    ∃ b o, A = some ⟨b, o, none⟩ ∧ b < w.heap.size ∧ w.cell? ⟨b, o + k * 4, none⟩ = some (.int .i64 x.shipper) ∧ w.cell? ⟨b, o + k * 4 + 1, none⟩ = some (.int .i64 x.node) ∧ w.cell? ⟨b, o + k * 4 + 2, none⟩ = some (.int .i64 x.amount) ∧ w.cell? ⟨b, o + k * 4 + 3, none⟩ = some (.int .i64 x.cls) := by
  obtain ⟨b, o, e, hb, _, h⟩ := h.at_ GOrd.cells_len hk (by omega)
  exact ⟨b, o, e, hb, h 0 _ rfl, h 1 _ rfl, h 2 _ rfl, h 3 _ rfl⟩
structure GCon where
  shipper : Int
  entry : Int
  exit : Int
  amount : Int
  cls : Int
  src : Int
  dst : Int
  price : Int
def GCon.cells (x : GCon) : List Value := [.int .i64 x.shipper, .int .i64 x.entry, .int .i64 x.exit, .int .i64 x.amount, .int .i64 x.cls, .int .i64 x.src, .int .i64 x.dst, .int .i64 x.price]
theorem GCon.cells_len (x : GCon) : x.cells.length = 8 := rfl
def GCon.zero : GCon := ⟨0, 0, 0, 0, 0, 0, 0, 0⟩
structure GNom where
  contract : Int
  hour : Int
  sent : Int
  amount : Int
def GNom.cells (x : GNom) : List Value := [.int .i64 x.contract, .int .i64 x.hour, .int .i64 x.sent, .int .i64 x.amount]
theorem GNom.cells_len (x : GNom) : x.cells.length = 4 := rfl
def GNom.zero : GNom := ⟨0, 0, 0, 0⟩
end Go.Proofs.YthhmhigddmimjaaGreat
