import Derived.Test.YthhmhigddmimjaaGreatRows
import Derived.Test.YthhmhigddmimjaaGreatBase
import Derived.Test.YthhmhigddmimjaaGreatToE
import Derived.Test.YthhmhigddmimjaaGreatInts
import Derived.WalkKit
import Derived.ProofKit
import Derived.LoopTactic
import Derived.WalkLawsBesides
import Derived.WalkSpells
import Derived.Deep.QuietTactic
import Derived.BigQuiet
import Derived.Outline
import Derived.Laws.BytesArg
/-
  The law's helpers on networks: sizes, copies, comparison, marks.
-/
namespace Go.Proofs.YthhmhigddmimjaaGreat
open Go.ChangeShapes Go.WideShapes Go.ChangeAt Go.RowKit

/-- A slice value that reads as cells, within its capacity and not great. -/
structure SlAt (w : World) (size : Nat) (A : Option Addr) (n c : Nat) (xs : List Value) : Prop where
  sl : Sl w size A n xs
  cap : n ≤ c
  small : n ≤ 1048576
theorem SlAt.gr {w w' : World} {size n c : Nat} {A : Option Addr} {xs : List Value} (h : SlAt w size A n c xs) (g : Gr w w') : SlAt w' size A n c xs := ⟨h.sl.gr g, h.cap, h.small⟩
theorem SlAt.of_own {w : World} {base : Nat} {e : TypeId} {size n c : Nat} {A : Option Addr} {xs : List Value} (h : w.ownsRow base e size (.slice A n c) n xs) (hn : n ≤ 1048576) : SlAt w size A n c xs := ⟨Sl.of_own h, (own_cap h).1, hn⟩
structure GNet where
  nodes : List GNode
  pipes : List GPipe
/-- The network value '.agg #[.slice A1 n1 _, .slice A2 n2 _]' reads as n. -/
def NetRaw (w : World) (A1 : Option Addr) (n1 : Nat) (A2 : Option Addr) (n2 : Nat) (n : GNet) : Prop :=
  Sl w 3 A1 n1 (n.nodes.flatMap GNode.cells) ∧ Sl w 5 A2 n2 (n.pipes.flatMap GPipe.cells) ∧ ∀ x ∈ n.nodes, x.name.size ≤ maxLen
theorem NetRaw.gr {w w' : World} {A1 A2 : Option Addr} {n1 n2 : Nat} {n : GNet} (h : NetRaw w A1 n1 A2 n2 n) (g : Gr w w') : NetRaw w' A1 n1 A2 n2 n := ⟨h.1.gr g, h.2.1.gr g, h.2.2⟩
/-- The same, its lengths within their capacities and not great. -/
structure NetAt (w : World) (A1 : Option Addr) (n1 c1 : Nat) (A2 : Option Addr) (n2 c2 : Nat) (n : GNet) : Prop where
  raw : NetRaw w A1 n1 A2 n2 n
  c1 : n1 ≤ c1
  c2 : n2 ≤ c2
  m1 : n1 ≤ 1048576
  m2 : n2 ≤ 1048576
section
variable {w w' : World} {A1 A2 : Option Addr} {n1 c1 n2 c2 : Nat} {n : GNet}
theorem NetAt.gr (h : NetAt w A1 n1 c1 A2 n2 c2 n) (g : Gr w w') : NetAt w' A1 n1 c1 A2 n2 c2 n := ⟨h.raw.gr g, h.c1, h.c2, h.m1, h.m2⟩
theorem NetAt.nodes (h : NetAt w A1 n1 c1 A2 n2 c2 n) : Sl w 3 A1 n1 (n.nodes.flatMap GNode.cells) := h.raw.1
theorem NetAt.pipes (h : NetAt w A1 n1 c1 A2 n2 c2 n) : Sl w 5 A2 n2 (n.pipes.flatMap GPipe.cells) := h.raw.2.1
theorem NetAt.names (h : NetAt w A1 n1 c1 A2 n2 c2 n) : ∀ x ∈ n.nodes, x.name.size ≤ maxLen := h.raw.2.2
theorem NetAt.l1 (h : NetAt w A1 n1 c1 A2 n2 c2 n) : n.nodes.length = n1 := h.nodes.len GNode.cells_len (by omega)
theorem NetAt.l2 (h : NetAt w A1 n1 c1 A2 n2 c2 n) : n.pipes.length = n2 := h.pipes.len GPipe.cells_len (by omega)
end
/-- A network of the call's own. -/
structure OwnNet (w : World) (base : Nat) (A1 : Option Addr) (n1 c1 : Nat) (A2 : Option Addr) (n2 c2 : Nat) (n : GNet) : Prop where
  nodes : w.ownsRow base 62 3 (.slice A1 n1 c1) n1 (n.nodes.flatMap GNode.cells)
  pipes : w.ownsRow base 95 5 (.slice A2 n2 c2) n2 (n.pipes.flatMap GPipe.cells)
  names : ∀ x ∈ n.nodes, x.name.size ≤ maxLen
  m1 : n1 ≤ 1048576
  m2 : n2 ≤ 1048576
section
variable {w w' : World} {base : Nat} {A1 A2 : Option Addr} {n1 c1 n2 c2 : Nat} {n : GNet}
theorem OwnNet.at_ (h : OwnNet w base A1 n1 c1 A2 n2 c2 n) : NetAt w A1 n1 c1 A2 n2 c2 n := ⟨⟨Sl.of_own h.nodes, Sl.of_own h.pipes, h.names⟩, (own_cap h.nodes).1, (own_cap h.pipes).1, h.m1, h.m2⟩
theorem OwnNet.gr (h : OwnNet w base A1 n1 c1 A2 n2 c2 n) (g : Gr w w') : OwnNet w' base A1 n1 c1 A2 n2 c2 n := ⟨own_gr h.nodes g, own_gr h.pipes g, h.names, h.m1, h.m2⟩
end

/-- Only blocks that S names have turned, and new ones have come. -/
structure Chg (S : Nat → Prop) (w w' : World) : Prop where
  os : w'.os = w.os
  tape : w'.tape = w.tape
  output : w'.output = w.output
  size : w.heap.size ≤ w'.heap.size
  block : ∀ k, k < w.heap.size → ¬ S k → w'.heap[k]? = w.heap[k]?
theorem Chg.refl (S : Nat → Prop) (w : World) : Chg S w w := ⟨rfl, rfl, rfl, Nat.le_refl _, fun _ _ _ => rfl⟩
theorem Chg.trans {S : Nat → Prop} {a b c : World} (h : Chg S a b) (k : Chg S b c) : Chg S a c :=
  ⟨k.os.trans h.os, k.tape.trans h.tape, k.output.trans h.output, Nat.le_trans h.size k.size, fun i hi hn => (k.block i (Nat.lt_of_lt_of_le hi h.size) hn).trans (h.block i hi hn)⟩
theorem Chg.mono {S S' : Nat → Prop} {a b : World} (h : Chg S a b) (hs : ∀ k, S k → S' k) : Chg S' a b := ⟨h.os, h.tape, h.output, h.size, fun i hi hn => h.block i hi (fun hs' => hn (hs i hs'))⟩
theorem Gr.chg {a b : World} (h : Gr a b) (S : Nat → Prop) : Chg S a b := ⟨h.below.os, h.below.tape, h.below.output, h.size, fun i hi _ => h.below.block i hi⟩
theorem chg_of_grown {a b : World} {row : Option Nat} (h : a.grownBy b row) {S : Nat → Prop} (hs : ∀ k, row = some k → S k) : Chg S a b := ⟨h.os, h.tape, h.output, h.size, fun i hi hn => h.block i hi (fun e => hn (hs i e.symm))⟩
theorem Gr.of_chg {a w w' : World} {S : Nat → Prop} (h : Gr a w) (hc : Chg S w w') (hs : ∀ k, S k → a.heap.size ≤ k) : Gr a w' :=
  (⟨hc.os.trans h.below.os, hc.tape.trans h.below.tape, hc.output.trans h.below.output, Nat.le_trans h.size hc.size, fun i hi => (hc.block i (Nat.lt_of_lt_of_le hi h.size) (fun e => by have := hs i e; omega)).trans (h.below.block i hi)⟩ : Below _ _ _)
theorem own_chg {w w' : World} {base : Nat} {e : TypeId} {size n : Nat} {v : Value} {xs : List Value} {S : Nat → Prop} (h : w.ownsRow base e size v n xs) (hc : Chg S w w') (hs : ∀ k, v.ownBlock = some k → ¬ S k) : w'.ownsRow base e size v n xs := by
  refine ⟨h.1, ?_⟩
  rcases h.2 with h2 | ⟨k, cap, cur, rfl, hb, hk, r⟩
  · exact .inl h2
  · have hlt : k < w.heap.size := by
      rcases Nat.lt_or_ge k w.heap.size with hlt | hge
      · exact hlt
      · rw [Array.getElem?_eq_none hge] at hk; cases hk
    exact .inr ⟨k, cap, cur, rfl, hb, (hc.block k hlt (hs k rfl)).trans hk, r⟩

end Go.Proofs.YthhmhigddmimjaaGreat
/-
  The law's helpers on networks: copies, comparison, marks.
-/
namespace Go.Proofs.YthhmhigddmimjaaGreat
open Go.ChangeShapes Go.WideShapes Go.ChangeAt Go.RowKit

end Go.Proofs.YthhmhigddmimjaaGreat
/-
  Plain functions that the program and the reference both compute: networks.
-/
namespace Go.Proofs.YthhmhigddmimjaaGreat
open Go.RowKit

def inB (a n b : Int) : Bool := decide (a ≤ n) && decide (n ≤ b)
theorem inB_true {a n b : Int} (h : a ≤ n ∧ n ≤ b) : inB a n b = true := by simp [inB, h]
theorem inB_false {a n b : Int} (h : ¬ (a ≤ n ∧ n ≤ b)) : inB a n b = false := by simp [inB]; omega
theorem inB_iff {a n b : Int} : inB a n b = true ↔ a ≤ n ∧ n ≤ b := by simp [inB]
def byteOk (c : UInt8) : Bool := (decide (97 ≤ (c.toNat : Int)) && decide ((c.toNat : Int) ≤ 122)) || (decide (48 ≤ (c.toNat : Int)) && decide ((c.toNat : Int) ≤ 57))
def nameOk (s : ByteArray) : Bool := decide (1 ≤ s.size) && decide (s.size ≤ 8) && s.data.toList.all byteOk
def nodeOk (x : GNode) : Bool := nameOk x.name && decide (0 ≤ x.low) && decide (x.low ≤ x.high) && decide (x.high ≤ 100000000)
def pipeOk (nn : Int) (p : GPipe) : Bool := inB 0 p.src (nn - 1) && inB 0 p.dst (nn - 1) && !(p.src == p.dst) && inB 1 p.k 1000 && inB 0 p.vol 1000000 && inB 1 p.lim 30000
def sameName (x y : GNode) : Bool := x.name.toList == y.name.toList
def okAt (ns : List GNode) (k : Nat) : Bool := match ns[k]? with
  | some x => nodeOk x && !(ns.take k).any (fun y => sameName y x)
  | none => false
def netOk (n : GNet) : Bool := decide (1 ≤ n.nodes.length) && decide (n.nodes.length ≤ 24) && decide (n.pipes.length ≤ 40) && (List.range n.nodes.length).all (okAt n.nodes) && n.pipes.all (pipeOk n.nodes.length)

theorem byteOk_cases (c : UInt8) : ((c.toNat : Int) < 48 ∧ byteOk c = false) ∨ ((48 ≤ (c.toNat : Int) ∧ (c.toNat : Int) ≤ 57) ∧ byteOk c = true) ∨ ((57 < (c.toNat : Int) ∧ (c.toNat : Int) < 97) ∧ byteOk c = false) ∨
    ((97 ≤ (c.toNat : Int) ∧ (c.toNat : Int) ≤ 122) ∧ byteOk c = true) ∨ (122 < (c.toNat : Int) ∧ byteOk c = false) := by
  unfold byteOk
  generalize (c.toNat : Int) = n
  by_cases h1 : n < 48
  · left; exact ⟨h1, by simp; omega⟩
  by_cases h2 : n ≤ 57
  · right; left; exact ⟨⟨by omega, h2⟩, by simp; omega⟩
  by_cases h3 : n < 97
  · right; right; left; exact ⟨⟨by omega, h3⟩, by simp; omega⟩
  by_cases h4 : n ≤ 122
  · right; right; right; left; exact ⟨⟨by omega, h4⟩, by simp; omega⟩
  · right; right; right; right; exact ⟨by omega, by simp; omega⟩
theorem nameOk_bad {s : ByteArray} {k : Nat} (hk : k < s.size) (h : byteOk s[k] = false) : nameOk s = false := by
  unfold nameOk
  have : s.data.toList.all byteOk = false := by
    rw [List.all_eq_false]
    exact ⟨s[k], by rw [show s[k] = s.data.toList[k]'(by simpa using hk) from rfl]; exact List.getElem_mem _, by simp [h]⟩
  simp [this]
theorem nameOk_good {s : ByteArray} (h1 : 1 ≤ s.size) (h2 : s.size ≤ 8) (h : ∀ k (hk : k < s.size), byteOk s[k] = true) : nameOk s = true := by
  unfold nameOk
  have : s.data.toList.all byteOk = true := by
    rw [List.all_eq_true]
    intro c hc
    obtain ⟨k, hk, rfl⟩ := List.mem_iff_getElem.1 hc
    exact h k (by simpa using hk)
  simp [this, h1, h2]
theorem nameOk_size {s : ByteArray} (h : ¬ (1 ≤ s.size ∧ s.size ≤ 8)) : nameOk s = false := by
  unfold nameOk
  simp
  intro a b
  omega
theorem sameName_symm (x y : GNode) : sameName x y = sameName y x := by unfold sameName; exact Bool.eq_iff_iff.2 ⟨fun h => by simpa using (beq_iff_eq.1 h).symm, fun h => by simpa using (beq_iff_eq.1 h).symm⟩
theorem netOk_len {n : GNet} (h : ¬ (1 ≤ n.nodes.length ∧ n.nodes.length ≤ 24 ∧ n.pipes.length ≤ 40)) : netOk n = false := by
  unfold netOk
  by_cases h1 : 1 ≤ n.nodes.length <;> by_cases h2 : n.nodes.length ≤ 24 <;> by_cases h3 : n.pipes.length ≤ 40 <;> simp [h1, h2, h3]
  exact absurd ⟨h1, h2, h3⟩ h
theorem netOk_node {n : GNet} {k : Nat} (hk : k < n.nodes.length) (h : okAt n.nodes k = false) : netOk n = false := by
  unfold netOk
  have : (List.range n.nodes.length).all (okAt n.nodes) = false := by
    rw [List.all_eq_false]; exact ⟨k, by simpa using hk, by simp [h]⟩
  simp [this]
theorem netOk_pipe {n : GNet} {k : Nat} {p : GPipe} (hk : n.pipes[k]? = some p) (h : pipeOk n.nodes.length p = false) : netOk n = false := by
  unfold netOk
  have : n.pipes.all (pipeOk n.nodes.length) = false := by
    rw [List.all_eq_false]; exact ⟨p, List.mem_of_getElem? hk, by simp [h]⟩
  simp [this]
theorem netOk_good {n : GNet} (h1 : 1 ≤ n.nodes.length) (h2 : n.nodes.length ≤ 24) (h3 : n.pipes.length ≤ 40) (h4 : ∀ k, k < n.nodes.length → okAt n.nodes k = true) (h5 : ∀ (k : Nat) (p : GPipe), n.pipes[k]? = some p → pipeOk n.nodes.length p = true) : netOk n = true := by
  unfold netOk
  have e1 : (List.range n.nodes.length).all (okAt n.nodes) = true := by rw [List.all_eq_true]; intro k hk; exact h4 k (by simpa using hk)
  have e2 : n.pipes.all (pipeOk n.nodes.length) = true := by
    rw [List.all_eq_true]; intro p hp
    obtain ⟨k, hk, rfl⟩ := List.mem_iff_getElem.1 hp
    exact h5 k _ (List.getElem?_eq_getElem hk)
  simp [e1, e2, h1, h2, h3]
theorem okAt_bad {ns : List GNode} {k : Nat} {x : GNode} (hk : ns[k]? = some x) (h : nodeOk x = false) : okAt ns k = false := by simp [okAt, hk, h]
theorem okAt_dup {ns : List GNode} {k j : Nat} {x y : GNode} (hk : ns[k]? = some x) (hj : j < k) (hy : ns[j]? = some y) (h : sameName y x = true) : okAt ns k = false := by
  have : (ns.take k).any (fun y => sameName y x) = true := by
    rw [List.any_eq_true]
    exact ⟨y, List.mem_of_getElem? (i := j) (by rw [List.getElem?_take, if_pos hj]; exact hy), h⟩
  simp [okAt, hk, this]
theorem okAt_good {ns : List GNode} {k : Nat} {x : GNode} (hk : ns[k]? = some x) (h : nodeOk x = true) (hd : ∀ j, j < k → ∀ y, ns[j]? = some y → sameName y x = false) : okAt ns k = true := by
  have : (ns.take k).any (fun y => sameName y x) = false := by
    rw [List.any_eq_false]
    intro y hy
    obtain ⟨j, hj, rfl⟩ := List.mem_iff_getElem.1 hy
    have hjk : j < k := by simp at hj; omega
    rw [hd j hjk _ (by rw [← List.getElem?_eq_getElem hj, List.getElem?_take, if_pos hjk])]
    simp
  simp [okAt, hk, h, this]
theorem okAt_any {ns : List GNode} {k : Nat} {x : GNode} (hk : ns[k]? = some x) (h : nodeOk x = true) : okAt ns k = !(ns.take k).any (fun y => sameName y x) := by simp [okAt, hk, h]
/-- What a valid network is good for. -/
theorem netOk_all {n : GNet} (h : netOk n = true) : (1 ≤ n.nodes.length ∧ n.nodes.length ≤ 24 ∧ n.pipes.length ≤ 40) ∧ ∀ (k : Nat) (p : GPipe), n.pipes[k]? = some p → pipeOk n.nodes.length p = true := by
  unfold netOk at h
  simp only [Bool.and_eq_true, decide_eq_true_eq, List.all_eq_true] at h
  obtain ⟨⟨⟨⟨a, b⟩, c⟩, _⟩, e⟩ := h
  exact ⟨⟨a, b, c⟩, fun k p hp => e p (List.mem_of_getElem? hp)⟩
theorem pipeOk_all {nn : Int} {p : GPipe} (h : pipeOk nn p = true) : (0 ≤ p.src ∧ p.src ≤ nn - 1) ∧ (0 ≤ p.dst ∧ p.dst ≤ nn - 1) ∧ p.src ≠ p.dst ∧ (1 ≤ p.k ∧ p.k ≤ 1000) ∧ (0 ≤ p.vol ∧ p.vol ≤ 1000000) ∧ (1 ≤ p.lim ∧ p.lim ≤ 30000) := by
  unfold pipeOk at h
  simp only [Bool.and_eq_true, inB_iff, Bool.not_eq_true', beq_eq_false_iff_ne, ne_eq] at h
  obtain ⟨⟨⟨⟨⟨a, b⟩, c⟩, d⟩, e⟩, f⟩ := h
  exact ⟨a, b, c, d, e, f⟩
end Go.Proofs.YthhmhigddmimjaaGreat
