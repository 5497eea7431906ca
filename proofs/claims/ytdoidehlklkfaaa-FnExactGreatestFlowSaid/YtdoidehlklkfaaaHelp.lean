/-
  The law's helpers on networks: sizes, copies, comparison, marks.
-/
import Derived.Test.YtdoidehlklkfaaaRows
import Derived.Test.YtdoidehlklkfaaaData
import Derived.Test.YtdoidehlklkfaaaTo
import Derived.Test.YtdoidehlklkfaaaEq
import Derived.Test.YtdoidehlklkfaaaMark
import Derived.Test.YtdoidehlklkfaaaInts
import Derived.WalkKit
import Derived.ProofKit
import Derived.LoopTactic
import Derived.WalkLawsBesides
import Derived.WalkSpells
import Derived.Deep.QuietTactic
import Derived.BigQuiet
import Derived.Outline
namespace Go.Proofs.Ytdoidehlklkfaaa
open Go.ChangeShapes Go.WideShapes Go.ChangeAt Go.RowKit

/-- A slice value that reads as cells, within its capacity and not great. -/
structure SlAt (w : World) (size : Nat) (A : Option Addr) (n c : Nat) (xs : List Value) : Prop where
  sl : Sl w size A n xs
  cap : n ≤ c
  small : n ≤ 1048576
theorem SlAt.gr {w w' : World} {size n c : Nat} {A : Option Addr} {xs : List Value} (h : SlAt w size A n c xs) (g : Gr w w') : SlAt w' size A n c xs := ⟨h.sl.gr g, h.cap, h.small⟩
theorem SlAt.of_own {w : World} {base : Nat} {e : TypeId} {size n c : Nat} {A : Option Addr} {xs : List Value} (h : w.ownsRow base e size (.slice A n c) n xs) (hn : n ≤ 1048576) : SlAt w size A n c xs := ⟨Sl.of_own h, (own_cap h).1, hn⟩
structure GNet where
  nodes : List GNode
  pipes : List GPipe
/-- The network value '.agg #[.slice A1 n1 _, .slice A2 n2 _]' reads as n. -/
def NetRaw (w : World) (A1 : Option Addr) (n1 : Nat) (A2 : Option Addr) (n2 : Nat) (n : GNet) : Prop :=
  Sl w 3 A1 n1 (n.nodes.flatMap GNode.cells) ∧ Sl w 5 A2 n2 (n.pipes.flatMap GPipe.cells) ∧ ∀ x ∈ n.nodes, x.name.size ≤ maxLen
theorem NetRaw.gr {w w' : World} {A1 A2 : Option Addr} {n1 n2 : Nat} {n : GNet} (h : NetRaw w A1 n1 A2 n2 n) (g : Gr w w') : NetRaw w' A1 n1 A2 n2 n := ⟨h.1.gr g, h.2.1.gr g, h.2.2⟩
/-- The same, its lengths within their capacities and not great. -/
structure NetAt (w : World) (A1 : Option Addr) (n1 c1 : Nat) (A2 : Option Addr) (n2 c2 : Nat) (n : GNet) : Prop where
  raw : NetRaw w A1 n1 A2 n2 n
  c1 : n1 ≤ c1
  c2 : n2 ≤ c2
  m1 : n1 ≤ 1048576
  m2 : n2 ≤ 1048576
section
variable {w w' : World} {A1 A2 : Option Addr} {n1 c1 n2 c2 : Nat} {n : GNet}
theorem NetAt.gr (h : NetAt w A1 n1 c1 A2 n2 c2 n) (g : Gr w w') : NetAt w' A1 n1 c1 A2 n2 c2 n := ⟨h.raw.gr g, h.c1, h.c2, h.m1, h.m2⟩
theorem NetAt.nodes (h : NetAt w A1 n1 c1 A2 n2 c2 n) : Sl w 3 A1 n1 (n.nodes.flatMap GNode.cells) := h.raw.1
theorem NetAt.pipes (h : NetAt w A1 n1 c1 A2 n2 c2 n) : Sl w 5 A2 n2 (n.pipes.flatMap GPipe.cells) := h.raw.2.1
theorem NetAt.names (h : NetAt w A1 n1 c1 A2 n2 c2 n) : ∀ x ∈ n.nodes, x.name.size ≤ maxLen := h.raw.2.2
theorem NetAt.l1 (h : NetAt w A1 n1 c1 A2 n2 c2 n) : n.nodes.length = n1 := h.nodes.len GNode.cells_len (by omega)
theorem NetAt.l2 (h : NetAt w A1 n1 c1 A2 n2 c2 n) : n.pipes.length = n2 := h.pipes.len GPipe.cells_len (by omega)
end
/-- A network of the call's own. -/
structure OwnNet (w : World) (base : Nat) (A1 : Option Addr) (n1 c1 : Nat) (A2 : Option Addr) (n2 c2 : Nat) (n : GNet) : Prop where
  nodes : w.ownsRow base 142 3 (.slice A1 n1 c1) n1 (n.nodes.flatMap GNode.cells)
  pipes : w.ownsRow base 145 5 (.slice A2 n2 c2) n2 (n.pipes.flatMap GPipe.cells)
  names : ∀ x ∈ n.nodes, x.name.size ≤ maxLen
  m1 : n1 ≤ 1048576
  m2 : n2 ≤ 1048576
section
variable {w w' : World} {base : Nat} {A1 A2 : Option Addr} {n1 c1 n2 c2 : Nat} {n : GNet}
theorem OwnNet.at_ (h : OwnNet w base A1 n1 c1 A2 n2 c2 n) : NetAt w A1 n1 c1 A2 n2 c2 n := ⟨⟨Sl.of_own h.nodes, Sl.of_own h.pipes, h.names⟩, (own_cap h.nodes).1, (own_cap h.pipes).1, h.m1, h.m2⟩
theorem OwnNet.gr (h : OwnNet w base A1 n1 c1 A2 n2 c2 n) (g : Gr w w') : OwnNet w' base A1 n1 c1 A2 n2 c2 n := ⟨own_gr h.nodes g, own_gr h.pipes g, h.names, h.m1, h.m2⟩
end

/-- Only blocks that S names have turned, and new ones have come. -/
structure Chg (S : Nat → Prop) (w w' : World) : Prop where
  os : w'.os = w.os
  tape : w'.tape = w.tape
  output : w'.output = w.output
  size : w.heap.size ≤ w'.heap.size
  block : ∀ k, k < w.heap.size → ¬ S k → w'.heap[k]? = w.heap[k]?
theorem Chg.refl (S : Nat → Prop) (w : World) : Chg S w w := ⟨rfl, rfl, rfl, Nat.le_refl _, fun _ _ _ => rfl⟩
theorem Chg.trans {S : Nat → Prop} {a b c : World} (h : Chg S a b) (k : Chg S b c) : Chg S a c :=
  ⟨k.os.trans h.os, k.tape.trans h.tape, k.output.trans h.output, Nat.le_trans h.size k.size, fun i hi hn => (k.block i (Nat.lt_of_lt_of_le hi h.size) hn).trans (h.block i hi hn)⟩
theorem Chg.mono {S S' : Nat → Prop} {a b : World} (h : Chg S a b) (hs : ∀ k, S k → S' k) : Chg S' a b := ⟨h.os, h.tape, h.output, h.size, fun i hi hn => h.block i hi (fun hs' => hn (hs i hs'))⟩
theorem Gr.chg {a b : World} (h : Gr a b) (S : Nat → Prop) : Chg S a b := ⟨h.below.os, h.below.tape, h.below.output, h.size, fun i hi _ => h.below.block i hi⟩
theorem chg_of_grown {a b : World} {row : Option Nat} (h : a.grownBy b row) {S : Nat → Prop} (hs : ∀ k, row = some k → S k) : Chg S a b := ⟨h.os, h.tape, h.output, h.size, fun i hi hn => h.block i hi (fun e => hn (hs i e.symm))⟩
theorem Gr.of_chg {a w w' : World} {S : Nat → Prop} (h : Gr a w) (hc : Chg S w w') (hs : ∀ k, S k → a.heap.size ≤ k) : Gr a w' :=
  (⟨hc.os.trans h.below.os, hc.tape.trans h.below.tape, hc.output.trans h.below.output, Nat.le_trans h.size hc.size, fun i hi => (hc.block i (Nat.lt_of_lt_of_le hi h.size) (fun e => by have := hs i e; omega)).trans (h.below.block i hi)⟩ : Below _ _ _)
theorem own_chg {w w' : World} {base : Nat} {e : TypeId} {size n : Nat} {v : Value} {xs : List Value} {S : Nat → Prop} (h : w.ownsRow base e size v n xs) (hc : Chg S w w') (hs : ∀ k, v.ownBlock = some k → ¬ S k) : w'.ownsRow base e size v n xs := by
  refine ⟨h.1, ?_⟩
  rcases h.2 with h2 | ⟨k, cap, cur, rfl, hb, hk, r⟩
  · exact .inl h2
  · have hlt : k < w.heap.size := by
      rcases Nat.lt_or_ge k w.heap.size with hlt | hge
      · exact hlt
      · rw [Array.getElem?_eq_none hge] at hk; cases hk
    exact .inr ⟨k, cap, cur, rfl, hb, (hc.block k hlt (hs k rfl)).trans hk, r⟩

theorem szTransportS_any (A : Option Addr) (n c : Nat) (left : Int) (w : World) (h1 : 0 ≤ left) (h2 : left ≤ 1048576) (hl : n ≤ maxLen) :
    Calls Try.prog 16 #[.slice A n c, .int .i64 left] w fun e w' => ∃ r : Int, e = .returned (.int .i64 r) ∧ r ≤ left ∧ (0 ≤ r → n ≤ 1048576) ∧ w = w' := by
  unfold maxLen at hl
  go_enter Try.func16, Try.ntmps16
  go_wp2
  all_goals
    go_ret
    exact ⟨_, rfl, by omega, by omega, rfl⟩
theorem szReadingS_any (A : Option Addr) (n c : Nat) (left : Int) (w : World) (h1 : 0 ≤ left) (h2 : left ≤ 1048576) (hl : n ≤ maxLen) :
    Calls Try.prog 23 #[.slice A n c, .int .i64 left] w fun e w' => ∃ r : Int, e = .returned (.int .i64 r) ∧ r ≤ left ∧ (0 ≤ r → n ≤ 1048576) ∧ w = w' := by
  unfold maxLen at hl
  go_enter Try.func23, Try.ntmps23
  go_wp2
  all_goals
    go_ret
    exact ⟨_, rfl, by omega, by omega, rfl⟩
theorem szOrderS_any (A : Option Addr) (n c : Nat) (left : Int) (w : World) (h1 : 0 ≤ left) (h2 : left ≤ 1048576) (hl : n ≤ maxLen) :
    Calls Try.prog 49 #[.slice A n c, .int .i64 left] w fun e w' => ∃ r : Int, e = .returned (.int .i64 r) ∧ r ≤ left ∧ (0 ≤ r → n ≤ 1048576) ∧ w = w' := by
  unfold maxLen at hl
  go_enter Try.func49, Try.ntmps49
  go_wp2
  all_goals
    go_ret
    exact ⟨_, rfl, by omega, by omega, rfl⟩
theorem szPipeS_any (A : Option Addr) (n c : Nat) (left : Int) (w : World) (h1 : 0 ≤ left) (h2 : left ≤ 1048576) (hl : n ≤ maxLen) :
    Calls Try.prog 62 #[.slice A n c, .int .i64 left] w fun e w' => ∃ r : Int, e = .returned (.int .i64 r) ∧ r ≤ left ∧ (0 ≤ r → n ≤ 1048576) ∧ w = w' := by
  unfold maxLen at hl
  go_enter Try.func62, Try.ntmps62
  go_wp2
  all_goals
    go_ret
    exact ⟨_, rfl, by omega, by omega, rfl⟩
theorem szNode_any (x : GNode) (left : Int) (w : World) (h1 : 0 ≤ left) (h2 : left ≤ 1048576) (hs : x.name.size ≤ maxLen) :
    Calls Try.prog 115 #[.agg #[.string x.name, .int .i64 x.low, .int .i64 x.high], .int .i64 left] w fun e w' => ∃ r : Int, e = .returned (.int .i64 r) ∧ r ≤ left ∧ Gr w w' := by
  unfold maxLen at hs
  go_enter Try.func115, Try.ntmps115
  go_wp2
  all_goals
    go_ret
    exact ⟨_, rfl, by omega, (Gr.refl _).alloc _⟩
theorem szNodeS_any (A : Option Addr) (n c : Nat) (ns : List GNode) (left : Int) (w : World) (h1 : 0 ≤ left) (h2 : left ≤ 1048576) (hl : n ≤ maxLen)
  (hs : ∀ x ∈ ns, x.name.size ≤ maxLen) (hA : Sl w 3 A n (ns.flatMap GNode.cells)) :
    Calls Try.prog 61 #[.slice A n c, .int .i64 left] w fun e w' => ∃ r : Int, e = .returned (.int .i64 r) ∧ r ≤ left ∧ (0 ≤ r → n ≤ 1048576) ∧ Gr w w' := by
  unfold maxLen at hl
  have hlen := hA.len GNode.cells_len (by omega)
  have Hlen := Lib.hid hlen
  have HA := Lib.hid hA
  have Hs := Lib.hid hs
  clear hA hs hlen
  by_cases h : left < n
  · go_enter Try.func61, Try.ntmps61
    go_wp2
    go_ret
    exact ⟨_, rfl, by omega, by omega, Gr.refl _⟩
  · have hd : decide (left - (n : Int) < 0) = false := by simp; omega
    go_enter Try.func61, Try.ntmps61
    go_wp2_with fail
    go_loopw [1, 5, 23] (fun l i _ wr => ∃ k : Nat, ∃ q : Int, k ≤ n ∧ i = .int .i64 k ∧ l = .int .i64 q ∧ 0 ≤ q ∧ q ≤ left ∧ Gr w wr) (fun _ i _ _ => n - (intOf i).toNat)
    case atStart => exact ⟨0, _, Nat.zero_le _, rfl, rfl, by omega, by omega, Gr.refl _⟩
    case round =>
      obtain ⟨k, q, hk, rfl, rfl, hq1, hq2, hgr⟩ := hrel
      by_cases hlt : k < n
      · obtain ⟨x, hx⟩ : ∃ x, ns[k]? = some x := ⟨_, List.getElem?_eq_getElem (by have := Hlen.out; omega)⟩
        have hxs := Hs.out x (List.mem_of_getElem? hx)
        obtain ⟨b, o, rfl, hb, e0, e1, e2⟩ := (HA.out.gr hgr).nd hx
        clear hx
        go_wp2_with fail
        refine (szNode_any x q _ hq1 (by omega) hxs).mono ?_
        rintro e w' ⟨r, rfl, hr, hg1⟩
        by_cases hr0 : r < 0
        · go_wp2_with fail
          go_ret
          exact ⟨_, rfl, by omega, by omega, hgr.trans hg1⟩
        · go_wp2_with fail
          go_roundw
          case rel => exact ⟨k + 1, r, by omega, by go_num, rfl, by omega, by omega, hgr.trans hg1⟩
          case measure => simp [intOf]; omega
      · obtain rfl : k = n := by omega
        go_wp2_with fail
        go_ret
        exact ⟨_, rfl, by omega, by omega, hgr⟩
theorem szNetwork_any (A1 A2 : Option Addr) (n1 c1 n2 c2 : Nat) (n : GNet) (left : Int) (w : World) (h1 : 0 ≤ left) (h2 : left ≤ 1048576) (hl1 : n1 ≤ maxLen) (hl2 : n2 ≤ maxLen) (hA : NetRaw w A1 n1 A2 n2 n) :
    Calls Try.prog 15 #[.agg #[.slice A1 n1 c1, .slice A2 n2 c2], .int .i64 left] w fun e w' => ∃ r : Int, e = .returned (.int .i64 r) ∧ r ≤ left ∧ (0 ≤ r → n1 ≤ 1048576 ∧ n2 ≤ 1048576) ∧ Gr w w' := by
  have HA := Lib.hid hA
  clear hA
  go_enter Try.func15, Try.ntmps15
  go_wp2_with fail
  refine (szNodeS_any A1 n1 c1 n.nodes left _ h1 h2 hl1 HA.out.2.2 (HA.out.1.gr ((Gr.refl _).alloc _))).mono ?_
  rintro e w1 ⟨r, rfl, hr, hr2, hg1⟩
  have hc := hg1.has (p := ⟨w.heap.size, 1, none⟩) (v := .slice A2 n2 c2) (by simp [go_sem])
  by_cases hr0 : r < 0
  · go_wp2_with fail
    go_ret
    exact ⟨_, rfl, by omega, by omega, ((Gr.refl _).alloc _).trans hg1⟩
  · go_wp2_with fail
    refine (szPipeS_any A2 n2 c2 r _ (by omega) (by omega) hl2).mono ?_
    rintro e w2 ⟨r', rfl, hr', hr2', rfl⟩
    by_cases hr0' : r' < 0
    · go_wp2_with fail
      go_ret
      exact ⟨_, rfl, by omega, by omega, ((Gr.refl _).alloc _).trans hg1⟩
    · go_wp2_with fail
      go_ret
      exact ⟨_, rfl, by omega, fun h => ⟨hr2 (by omega), hr2' h⟩, ((Gr.refl _).alloc _).trans hg1⟩
end Go.Proofs.Ytdoidehlklkfaaa
