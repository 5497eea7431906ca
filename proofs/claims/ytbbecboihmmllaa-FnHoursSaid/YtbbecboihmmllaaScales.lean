import Derived.Test.YtbbecboihmmllaaSups
import Derived.Test.YtbbecboihmmllaaClone
import Derived.Deep.RegionHeld3
import Derived.Deep.AppendLies
/-
  Plain functions: scaled transports.
-/
namespace Go.Proofs.Ytbbecboihmmllaa
open Go.RowKit

def scaleAmt (sc : List Int) (x : GTr) : Int := x.amount * sc.getD x.cls.toNat 0 / 100
def scaleOne (sc : List Int) (x : GTr) : GTr := ⟨x.entry, x.exit, scaleAmt sc x, x.cls⟩
def scaled (sc : List Int) (l : List GTr) : List GTr := l.map (scaleOne sc)
def scOk (sc : List Int) : Bool := decide (sc.length = 4) && sc.all fun z => inB 0 z 100
theorem scOk_all {sc : List Int} (h : scOk sc = true) : sc.length = 4 ∧ ∀ (j : Nat) (z : Int), sc[j]? = some z → 0 ≤ z ∧ z ≤ 100 := by
  simp only [scOk, Bool.and_eq_true, decide_eq_true_eq, List.all_eq_true] at h
  exact ⟨h.1, fun j z hz => inB_iff.1 (h.2 z (List.mem_of_getElem? hz))⟩
theorem mul_bnd {a s : Int} (h1 : 0 ≤ a ∧ a ≤ 30000) (h2 : 0 ≤ s ∧ s ≤ 100) : 0 ≤ a * s ∧ a * s ≤ 3000000 := by
  refine ⟨Int.mul_nonneg h1.1 h2.1, ?_⟩
  have := Int.mul_le_mul h1.2 h2.2 h2.1 (by omega)
  omega
theorem set_tr_amount (ys : List GTr) (k : Nat) (x : GTr) (a : Int) (hx : ys[k]? = some x) : (ys.flatMap GTr.cells).set (k * 4 + 2) (.int .i64 a) = (ys.set k ⟨x.entry, x.exit, a, x.cls⟩).flatMap GTr.cells := by
  induction ys generalizing k with
  | nil => simp at hx
  | cons y ys ih =>
    cases k with
    | zero =>
      simp at hx
      subst hx
      simp [GTr.cells]
    | succ k =>
      have hx' : ys[k]? = some x := by simpa using hx
      rw [List.set_cons_succ, List.flatMap_cons, List.flatMap_cons, ← ih k hx']
      have e : (k + 1) * 4 + 2 = y.cells.length + (k * 4 + 2) := by rw [GTr.cells_len]; omega
      rw [e, List.set_append_right _ _ (by omega), Nat.add_sub_cancel_left]
theorem own_set_tr_amount {w : World} {base : Nat} {e : TypeId} {n c g k : Nat} {ys : List GTr} {x : GTr} (h : w.ownsRow base e 4 (.slice (some ⟨g, 0, none⟩) n c) n (ys.flatMap GTr.cells)) (a : Int) (hx : ys[k]? = some x) :
    (w.setCell ⟨g, k * 4 + 2, none⟩ (.int .i64 a)).ownsRow base e 4 (.slice (some ⟨g, 0, none⟩) n c) n ((ys.set k ⟨x.entry, x.exit, a, x.cls⟩).flatMap GTr.cells) ∧ w.grownBy (w.setCell ⟨g, k * 4 + 2, none⟩ (.int .i64 a)) (some g) := by
  have h0 := h.stored (k * 4 + 2) (.int .i64 a)
  rw [set_tr_amount ys k x a hx] at h0
  exact h0
/-- The elements that a function has gone over so far. -/
def mapTo {α : Type} (f : α → α) (l : List α) (k : Nat) : List α := (l.take k).map f ++ l.drop k
theorem mapTo_zero {α : Type} (f : α → α) (l : List α) : mapTo f l 0 = l := by simp [mapTo]
theorem mapTo_full {α : Type} (f : α → α) (l : List α) (k : Nat) (hk : l.length ≤ k) : mapTo f l k = l.map f := by simp [mapTo, List.take_of_length_le hk, List.drop_of_length_le hk]
theorem mapTo_length {α : Type} (f : α → α) (l : List α) (k : Nat) : (mapTo f l k).length = l.length := by simp [mapTo]; omega
theorem mapTo_get {α : Type} (f : α → α) (l : List α) {k : Nat} {x : α} (hx : l[k]? = some x) : (mapTo f l k)[k]? = some x := by
  have hl := (List.getElem?_eq_some_iff.1 hx).1
  rw [mapTo, List.getElem?_append_right (by simp; omega)]
  simp only [List.length_map, List.length_take, Nat.min_eq_left (Nat.le_of_lt hl), Nat.sub_self, List.getElem?_drop, Nat.add_zero]
  exact hx
theorem mapTo_set {α : Type} (f : α → α) (l : List α) {k : Nat} {x : α} (hx : l[k]? = some x) : (mapTo f l k).set k (f x) = mapTo f l (k + 1) := by
  have hl := (List.getElem?_eq_some_iff.1 hx).1
  unfold mapTo
  rw [List.set_append_right _ _ (by simp; omega)]
  have e : k - ((l.take k).map f).length = 0 := by simp; omega
  rw [e, List.drop_eq_getElem_cons hl, List.set_cons_zero, List.take_add_one, hx, List.map_append]
  simp
end Go.Proofs.Ytbbecboihmmllaa
/-
  Scales and scaled transports: the program's part.
-/
namespace Go.Proofs.Ytbbecboihmmllaa
open Go.ChangeShapes Go.WideShapes Go.ChangeAt Go.RowKit

end Go.Proofs.Ytbbecboihmmllaa
/-
  Scales and scaled transports: the book's part.
-/
namespace Go.Proofs.Ytbbecboihmmllaa
open Go.ChangeShapes Go.WideShapes Go.ChangeAt Go.RowKit

def onlyScales (q : Int) : List Int := (List.range 4).map fun (k : Nat) => if (k : Int) < q then 100 else 0
theorem onlyScales_ok (q : Int) : scOk (onlyScales q) = true := by
  simp only [scOk, onlyScales, List.length_map, List.length_range, decide_true, Bool.true_and, List.all_map, List.all_eq_true]
  intro k _
  simp only [Function.comp]
  split <;> decide

theorem own_base_le {w : World} {base : Nat} {e : TypeId} {size n k : Nat} {v : Value} {xs : List Value} (h : w.ownsRow base e size v n xs) (hk : v.ownBlock = some k) : base ≤ k := by
  rcases h.2 with ⟨hv, _⟩ | ⟨g, cap, cur, hv, hb, _⟩
  · rw [hv] at hk; simp [Value.ownBlock] at hk
  · rw [hv] at hk; simp [Value.ownBlock] at hk; omega
theorem own_block_lt {w : World} {base : Nat} {e : TypeId} {size n k : Nat} {v : Value} {xs : List Value} (h : w.ownsRow base e size v n xs) (hk : v.ownBlock = some k) : k < w.heap.size := by
  rcases h.2 with ⟨hv, _⟩ | ⟨g, cap, cur, hv, hb, hg, _⟩
  · rw [hv] at hk; simp [Value.ownBlock] at hk
  · rw [hv] at hk
    simp [Value.ownBlock] at hk
    subst hk
    rcases Nat.lt_or_ge g w.heap.size with hlt | hge
    · exact hlt
    · rw [Array.getElem?_eq_none hge] at hg; cases hg
theorem ints_snoc (l : List Int) (x : Int) : ints (l ++ [x]) = ints l ++ [.int .i64 x] := by simp [ints]
theorem flat_snoc {α : Type} (f : α → List Value) (l : List α) (x : α) : (l ++ [x]).flatMap f = l.flatMap f ++ f x := by simp
theorem map_take_succ {α β : Type} (f : α → β) (l : List α) {k : Nat} {x : α} (hx : l[k]? = some x) : (l.take (k + 1)).map f = (l.take k).map f ++ [f x] := by
  rw [List.take_add_one, hx]; simp

end Go.Proofs.Ytbbecboihmmllaa
/-
  ScaleTransports and OnlyClasses: the contracts.
-/
namespace Go.Proofs.Ytbbecboihmmllaa
open Go.ChangeShapes Go.WideShapes Go.ChangeAt Go.RowKit

def scCode (n : GNet) (l : List GTr) (sc : List Int) : Int := if trCode n l = 0 then (if scOk sc then 0 else 2) else trCode n l
def scRes (n : GNet) (l : List GTr) (sc : List Int) : List GTr := if scCode n l sc = 0 then scaled sc l else []
def onCode (n : GNet) (l : List GTr) (q : Int) : Int := if trCode n l = 0 then (if inB 0 q 4 then 0 else 2) else trCode n l
def onRes (n : GNet) (l : List GTr) (q : Int) : List GTr := if onCode n l q = 0 then scaled (onlyScales q) l else []
def onlyOne (q : Int) (x : GTr) : GTr := ⟨x.entry, x.exit, if q ≤ x.cls then 0 else x.amount, x.cls⟩
theorem only_scaled {nn q : Int} {l : List GTr} (h : trsOk nn l = true) : l.map (onlyOne q) = scaled (onlyScales q) l := by
  unfold scaled
  refine List.map_congr_left fun x hx => ?_
  obtain ⟨k, hk⟩ := List.mem_iff_getElem?.1 hx
  obtain ⟨_, _, _, p4, p5⟩ := trOk_all ((trsOk_all h).2 k x hk)
  unfold onlyOne scaleOne scaleAmt
  have e : (onlyScales q).getD x.cls.toNat 0 = if x.cls < q then 100 else 0 := by
    have h4 : x.cls.toNat < 4 := by omega
    have hc : ((x.cls.toNat : Nat) : Int) = x.cls := Int.toNat_of_nonneg p5.1
    simp [onlyScales, h4, hc]
  rw [e]
  by_cases hc : x.cls < q
  · rw [if_neg (by omega), if_pos hc, Int.mul_ediv_cancel _ (by decide)]
  · rw [if_pos (by omega), if_neg hc]; simp

theorem set_get_same {α : Type} {l : List α} {k : Nat} {x : α} (h : l[k]? = some x) : l.set k x = l := by
  apply List.ext_getElem?
  intro j
  rw [List.getElem?_set]
  by_cases e : k = j
  · subst e
    rw [if_pos rfl, if_pos (List.getElem?_eq_some_iff.1 h).1, h]
  · rw [if_neg e]
end Go.Proofs.Ytbbecboihmmllaa
