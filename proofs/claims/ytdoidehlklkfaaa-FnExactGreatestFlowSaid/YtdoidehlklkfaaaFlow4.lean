/-
  The search of the reference.
-/
import Derived.Test.YtdoidehlklkfaaaFlow3
namespace Go.Proofs.Ytdoidehlklkfaaa
open Go.ChangeShapes Go.WideShapes Go.ChangeAt Go.RowKit

theorem infoBool : (Try.prog.info? 4).map (fun i => (i.zero, i.size, i.bytes)) = some (some (.bool false), 1, 1) := by kernel_rfl
def bools (l : List Bool) : List Value := l.map Value.bool
theorem made_bools (n : Nat) : (madeCells #[Value.bool false] (n * 1)).toList = bools (List.replicate n false) := by
  rw [Nat.mul_one, toList_madeCells_one]; simp [bools]
theorem made_nats (n : Nat) : (madeCells #[Value.int .i64 0] (n * 1)).toList = nats (List.replicate n 0) := by
  rw [made_ints]; simp [nats]
theorem own_bool {w : World} {base : Nat} {e : TypeId} {n c g : Nat} {zs : List Bool} (h : w.ownsRow base e 1 (.slice (some ⟨g, 0, none⟩) n c) n (bools zs)) {k : Nat} {x : Bool} (hk : zs[k]? = some x) (hn : k < n) :
    w.cell? ⟨g, k, none⟩ = some (.bool x) ∧ w.frozen? ⟨g, k, none⟩ = false := by
  refine ⟨?_, h.frozenAt k⟩
  rw [h.cellAt k (by omega)]
  simp [bools, hk]
theorem own_set_bool {w : World} {base : Nat} {e : TypeId} {n c g : Nat} {zs : List Bool} (h : w.ownsRow base e 1 (.slice (some ⟨g, 0, none⟩) n c) n (bools zs)) (k : Nat) (x : Bool) :
    (w.setCell ⟨g, k, none⟩ (.bool x)).ownsRow base e 1 (.slice (some ⟨g, 0, none⟩) n c) n (bools (zs.set k x)) ∧ w.grownBy (w.setCell ⟨g, k, none⟩ (.bool x)) (some g) := by
  have h0 := h.stored k (.bool x)
  have e1 : (bools zs).set k (.bool x) = bools (zs.set k x) := by simp [bools, List.map_set]
  rw [e1] at h0
  exact h0
theorem own_set_nat {w : World} {base : Nat} {e : TypeId} {n c g : Nat} {zs : List Nat} (h : w.ownsRow base e 1 (.slice (some ⟨g, 0, none⟩) n c) n (nats zs)) (k x : Nat) :
    (w.setCell ⟨g, k, none⟩ (.int .i64 x)).ownsRow base e 1 (.slice (some ⟨g, 0, none⟩) n c) n (nats (zs.set k x)) ∧ w.grownBy (w.setCell ⟨g, k, none⟩ (.int .i64 x)) (some g) := by
  have h0 := own_set_int h k (x : Int)
  have e1 : (zs.map fun (x : Nat) => (x : Int)).set k (x : Int) = (zs.set k x).map fun (x : Nat) => (x : Int) := by rw [List.map_set]
  rw [e1] at h0
  exact h0
/-- Three rows of a search. -/
structure SrAt (w : World) (B g h n1 : Nat) (O : Value) (s : St) : Prop where
  ge : B ≤ g
  gh : g < h
  ent : w.ownsRow B 2 1 (.slice (some ⟨g, 0, none⟩) n1 n1) n1 (nats s.ent)
  seen : w.ownsRow B 4 1 (.slice (some ⟨h, 0, none⟩) n1 n1) n1 (bools s.seen)
  ord : w.ownsRow (h + 1) 2 1 O s.ord.length (nats s.ord)
theorem SrAt.gr {w w' : World} {B g h n1 : Nat} {O : Value} {s : St} (q : SrAt w B g h n1 O s) (hg : Gr w w') : SrAt w' B g h n1 O s := ⟨q.ge, q.gh, own_gr q.ent hg, own_gr q.seen hg, own_gr q.ord hg⟩
theorem SrAt.lt {w : World} {B g h n1 : Nat} {O : Value} {s : St} (q : SrAt w B g h n1 O s) : h < w.heap.size := own_block_lt q.seen rfl
/-- A node is entered: two stores and an append. -/
theorem SrAt.enter {w w3 : World} {B g h n1 m cap g3 : Nat} {O : Value} {s : St} {o p : Nat} (q : SrAt w B g h n1 O s)
    (h3 : w3.ownsRow (h + 1) 2 1 (.slice (some ⟨g3, 0, none⟩) m cap) m (nats s.ord ++ [.int .i64 o])) (hm : m = s.ord.length + 1) {ob : Obj}
    (hg : (((w.setCell ⟨h, o, none⟩ (.bool true)).setCell ⟨g, o, none⟩ (.int .i64 p)).alloc ob).grownBy w3 O.ownBlock) :
    SrAt w3 B g h n1 (.slice (some ⟨g3, 0, none⟩) m cap) ⟨s.ent.set o p, s.seen.set o true, s.ord ++ [o]⟩ := by
  have hgh := q.gh
  obtain ⟨a1, a2⟩ := own_set_bool q.seen o true
  have e1 := q.ent.kept a2 (Or.inr (by simp [Value.ownBlock]; omega))
  obtain ⟨b1, b2⟩ := own_set_nat e1 o p
  have s1 := a1.kept b2 (Or.inr (by simp [Value.ownBlock]; omega))
  have hne : ∀ j, O.ownBlock = some j → h + 1 ≤ j := fun j hj => own_base_le q.ord hj
  refine ⟨q.ge, q.gh, ?_, ?_, ?_⟩
  · refine (b1.alloc ob).kept hg (Or.inr ?_)
    intro e
    have := hne g (by rw [← e]; rfl)
    omega
  · refine (s1.alloc ob).kept hg (Or.inr ?_)
    intro e
    have := hne h (by rw [← e]; rfl)
    omega
  · simp only [List.length_append, List.length_singleton]
    rw [← hm, nats_snoc]
    exact h3
end Go.Proofs.Ytdoidehlklkfaaa
