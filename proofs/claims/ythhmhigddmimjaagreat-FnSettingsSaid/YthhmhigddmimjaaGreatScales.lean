import Derived.Test.YthhmhigddmimjaaGreatSups
import Derived.Test.YthhmhigddmimjaaGreatClone
import Derived.Deep.RegionHeld3
import Derived.Deep.AppendLies
/-
  Plain functions: scaled transports.
-/
namespace Go.Proofs.YthhmhigddmimjaaGreat
open Go.RowKit

def scaleAmt (sc : List Int) (x : GTr) : Int := x.amount * sc.getD x.cls.toNat 0 / 100
def scaleOne (sc : List Int) (x : GTr) : GTr := ⟨x.entry, x.exit, scaleAmt sc x, x.cls⟩
def scaled (sc : List Int) (l : List GTr) : List GTr := l.map (scaleOne sc)
def scOk (sc : List Int) : Bool := decide (sc.length = 4) && sc.all fun z => inB 0 z 100
/-- The elements that a function has gone over so far. -/
def mapTo {α : Type} (f : α → α) (l : List α) (k : Nat) : List α := (l.take k).map f ++ l.drop k
end Go.Proofs.YthhmhigddmimjaaGreat
/-
  Scales and scaled transports: the program's part.
-/
namespace Go.Proofs.YthhmhigddmimjaaGreat
open Go.ChangeShapes Go.WideShapes Go.ChangeAt Go.RowKit

end Go.Proofs.YthhmhigddmimjaaGreat
/-
  Scales and scaled transports: the book's part.
-/
namespace Go.Proofs.YthhmhigddmimjaaGreat
open Go.ChangeShapes Go.WideShapes Go.ChangeAt Go.RowKit

def onlyScales (q : Int) : List Int := (List.range 4).map fun (k : Nat) => if (k : Int) < q then 100 else 0
theorem own_base_le {w : World} {base : Nat} {e : TypeId} {size n k : Nat} {v : Value} {xs : List Value} (h : w.ownsRow base e size v n xs) (hk : v.ownBlock = some k) : base ≤ k := by
  rcases h.2 with ⟨hv, _⟩ | ⟨g, cap, cur, hv, hb, _⟩
  · rw [hv] at hk; simp [Value.ownBlock] at hk
  · rw [hv] at hk; simp [Value.ownBlock] at hk; omega
theorem own_block_lt {w : World} {base : Nat} {e : TypeId} {size n k : Nat} {v : Value} {xs : List Value} (h : w.ownsRow base e size v n xs) (hk : v.ownBlock = some k) : k < w.heap.size := by
  rcases h.2 with ⟨hv, _⟩ | ⟨g, cap, cur, hv, hb, hg, _⟩
  · rw [hv] at hk; simp [Value.ownBlock] at hk
  · rw [hv] at hk
    simp [Value.ownBlock] at hk
    subst hk
    rcases Nat.lt_or_ge g w.heap.size with hlt | hge
    · exact hlt
    · rw [Array.getElem?_eq_none hge] at hg; cases hg
theorem ints_snoc (l : List Int) (x : Int) : ints (l ++ [x]) = ints l ++ [.int .i64 x] := by simp [ints]
end Go.Proofs.YthhmhigddmimjaaGreat
/-
  ScaleTransports and OnlyClasses: the contracts.
-/
namespace Go.Proofs.YthhmhigddmimjaaGreat
open Go.ChangeShapes Go.WideShapes Go.ChangeAt Go.RowKit

def scCode (n : GNet) (l : List GTr) (sc : List Int) : Int := if trCode n l = 0 then (if scOk sc then 0 else 2) else trCode n l
def scRes (n : GNet) (l : List GTr) (sc : List Int) : List GTr := if scCode n l sc = 0 then scaled sc l else []
def onCode (n : GNet) (l : List GTr) (q : Int) : Int := if trCode n l = 0 then (if inB 0 q 4 then 0 else 2) else trCode n l
def onRes (n : GNet) (l : List GTr) (q : Int) : List GTr := if onCode n l q = 0 then scaled (onlyScales q) l else []
def onlyOne (q : Int) (x : GTr) : GTr := ⟨x.entry, x.exit, if q ≤ x.cls then 0 else x.amount, x.cls⟩
end Go.Proofs.YthhmhigddmimjaaGreat
