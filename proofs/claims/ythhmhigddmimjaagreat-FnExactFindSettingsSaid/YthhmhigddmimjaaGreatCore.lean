import Derived.Test.YthhmhigddmimjaaGreatRows
import Derived.Test.YthhmhigddmimjaaGreatBase
import Derived.Test.YthhmhigddmimjaaGreatToE
import Derived.Test.YthhmhigddmimjaaGreatInts
import Derived.WalkKit
import Derived.ProofKit
import Derived.LoopTactic
import Derived.WalkLawsBesides
import Derived.WalkSpells
import Derived.Deep.QuietTactic
import Derived.BigQuiet
import Derived.Outline
import Derived.Laws.BytesArg
/-
  The law's helpers on networks: sizes, copies, comparison, marks.
-/
namespace Go.Proofs.YthhmhigddmimjaaGreat
open Go.ChangeShapes Go.WideShapes Go.ChangeAt Go.RowKit

/-- A slice value that reads as cells, within its capacity and not great. -/
structure SlAt (w : World) (size : Nat) (A : Option Addr) (n c : Nat) (xs : List Value) : Prop where
  sl : Sl w size A n xs
  cap : n ≤ c
  small : n ≤ 1048576
theorem SlAt.gr {w w' : World} {size n c : Nat} {A : Option Addr} {xs : List Value} (h : SlAt w size A n c xs) (g : Gr w w') : SlAt w' size A n c xs := ⟨h.sl.gr g, h.cap, h.small⟩
theorem SlAt.of_own {w : World} {base : Nat} {e : TypeId} {size n c : Nat} {A : Option Addr} {xs : List Value} (h : w.ownsRow base e size (.slice A n c) n xs) (hn : n ≤ 1048576) : SlAt w size A n c xs := ⟨Sl.of_own h, (own_cap h).1, hn⟩
structure GNet where
  nodes : List GNode
  pipes : List GPipe
/-- The network value '.agg #[.slice A1 n1 _, .slice A2 n2 _]' reads as n. -/
def NetRaw (w : World) (A1 : Option Addr) (n1 : Nat) (A2 : Option Addr) (n2 : Nat) (n : GNet) : Prop :=
  Sl w 3 A1 n1 (n.nodes.flatMap GNode.cells) ∧ Sl w 5 A2 n2 (n.pipes.flatMap GPipe.cells) ∧ ∀ x ∈ n.nodes, x.name.size ≤ maxLen
theorem NetRaw.gr {w w' : World} {A1 A2 : Option Addr} {n1 n2 : Nat} {n : GNet} (h : NetRaw w A1 n1 A2 n2 n) (g : Gr w w') : NetRaw w' A1 n1 A2 n2 n := ⟨h.1.gr g, h.2.1.gr g, h.2.2⟩
/-- The same, its lengths within their capacities and not great. -/
structure NetAt (w : World) (A1 : Option Addr) (n1 c1 : Nat) (A2 : Option Addr) (n2 c2 : Nat) (n : GNet) : Prop where
  raw : NetRaw w A1 n1 A2 n2 n
  c1 : n1 ≤ c1
  c2 : n2 ≤ c2
  m1 : n1 ≤ 1048576
  m2 : n2 ≤ 1048576
section
variable {w w' : World} {A1 A2 : Option Addr} {n1 c1 n2 c2 : Nat} {n : GNet}
theorem NetAt.gr (h : NetAt w A1 n1 c1 A2 n2 c2 n) (g : Gr w w') : NetAt w' A1 n1 c1 A2 n2 c2 n := ⟨h.raw.gr g, h.c1, h.c2, h.m1, h.m2⟩
theorem NetAt.nodes (h : NetAt w A1 n1 c1 A2 n2 c2 n) : Sl w 3 A1 n1 (n.nodes.flatMap GNode.cells) := h.raw.1
theorem NetAt.pipes (h : NetAt w A1 n1 c1 A2 n2 c2 n) : Sl w 5 A2 n2 (n.pipes.flatMap GPipe.cells) := h.raw.2.1
theorem NetAt.names (h : NetAt w A1 n1 c1 A2 n2 c2 n) : ∀ x ∈ n.nodes, x.name.size ≤ maxLen := h.raw.2.2
theorem NetAt.l1 (h : NetAt w A1 n1 c1 A2 n2 c2 n) : n.nodes.length = n1 := h.nodes.len GNode.cells_len (by omega)
theorem NetAt.l2 (h : NetAt w A1 n1 c1 A2 n2 c2 n) : n.pipes.length = n2 := h.pipes.len GPipe.cells_len (by omega)
end
/-- A network of the call's own. -/
structure OwnNet (w : World) (base : Nat) (A1 : Option Addr) (n1 c1 : Nat) (A2 : Option Addr) (n2 c2 : Nat) (n : GNet) : Prop where
  nodes : w.ownsRow base 62 3 (.slice A1 n1 c1) n1 (n.nodes.flatMap GNode.cells)
  pipes : w.ownsRow base 95 5 (.slice A2 n2 c2) n2 (n.pipes.flatMap GPipe.cells)
  names : ∀ x ∈ n.nodes, x.name.size ≤ maxLen
  m1 : n1 ≤ 1048576
  m2 : n2 ≤ 1048576
section
variable {w w' : World} {base : Nat} {A1 A2 : Option Addr} {n1 c1 n2 c2 : Nat} {n : GNet}
theorem OwnNet.at_ (h : OwnNet w base A1 n1 c1 A2 n2 c2 n) : NetAt w A1 n1 c1 A2 n2 c2 n := ⟨⟨Sl.of_own h.nodes, Sl.of_own h.pipes, h.names⟩, (own_cap h.nodes).1, (own_cap h.pipes).1, h.m1, h.m2⟩
theorem OwnNet.gr (h : OwnNet w base A1 n1 c1 A2 n2 c2 n) (g : Gr w w') : OwnNet w' base A1 n1 c1 A2 n2 c2 n := ⟨own_gr h.nodes g, own_gr h.pipes g, h.names, h.m1, h.m2⟩
end

/-- Only blocks that S names have turned, and new ones have come. -/
structure Chg (S : Nat → Prop) (w w' : World) : Prop where
  os : w'.os = w.os
  tape : w'.tape = w.tape
  output : w'.output = w.output
  size : w.heap.size ≤ w'.heap.size
  block : ∀ k, k < w.heap.size → ¬ S k → w'.heap[k]? = w.heap[k]?
theorem Chg.refl (S : Nat → Prop) (w : World) : Chg S w w := ⟨rfl, rfl, rfl, Nat.le_refl _, fun _ _ _ => rfl⟩
theorem Chg.trans {S : Nat → Prop} {a b c : World} (h : Chg S a b) (k : Chg S b c) : Chg S a c :=
  ⟨k.os.trans h.os, k.tape.trans h.tape, k.output.trans h.output, Nat.le_trans h.size k.size, fun i hi hn => (k.block i (Nat.lt_of_lt_of_le hi h.size) hn).trans (h.block i hi hn)⟩
theorem Chg.mono {S S' : Nat → Prop} {a b : World} (h : Chg S a b) (hs : ∀ k, S k → S' k) : Chg S' a b := ⟨h.os, h.tape, h.output, h.size, fun i hi hn => h.block i hi (fun hs' => hn (hs i hs'))⟩
theorem Gr.chg {a b : World} (h : Gr a b) (S : Nat → Prop) : Chg S a b := ⟨h.below.os, h.below.tape, h.below.output, h.size, fun i hi _ => h.below.block i hi⟩
theorem chg_of_grown {a b : World} {row : Option Nat} (h : a.grownBy b row) {S : Nat → Prop} (hs : ∀ k, row = some k → S k) : Chg S a b := ⟨h.os, h.tape, h.output, h.size, fun i hi hn => h.block i hi (fun e => hn (hs i e.symm))⟩
theorem Gr.of_chg {a w w' : World} {S : Nat → Prop} (h : Gr a w) (hc : Chg S w w') (hs : ∀ k, S k → a.heap.size ≤ k) : Gr a w' :=
  (⟨hc.os.trans h.below.os, hc.tape.trans h.below.tape, hc.output.trans h.below.output, Nat.le_trans h.size hc.size, fun i hi => (hc.block i (Nat.lt_of_lt_of_le hi h.size) (fun e => by have := hs i e; omega)).trans (h.below.block i hi)⟩ : Below _ _ _)
theorem own_chg {w w' : World} {base : Nat} {e : TypeId} {size n : Nat} {v : Value} {xs : List Value} {S : Nat → Prop} (h : w.ownsRow base e size v n xs) (hc : Chg S w w') (hs : ∀ k, v.ownBlock = some k → ¬ S k) : w'.ownsRow base e size v n xs := by
  refine ⟨h.1, ?_⟩
  rcases h.2 with h2 | ⟨k, cap, cur, rfl, hb, hk, r⟩
  · exact .inl h2
  · have hlt : k < w.heap.size := by
      rcases Nat.lt_or_ge k w.heap.size with hlt | hge
      · exact hlt
      · rw [Array.getElem?_eq_none hge] at hk; cases hk
    exact .inr ⟨k, cap, cur, rfl, hb, (hc.block k hlt (hs k rfl)).trans hk, r⟩

theorem szPipeS_any (A : Option Addr) (n c : Nat) (left : Int) (w : World) (h1 : 0 ≤ left) (h2 : left ≤ 1048576) (hl : n ≤ maxLen) :
    Calls Tryz.prog 48 #[.slice A n c, .int .i64 left] w fun e w' => ∃ r : Int, e = .returned (.int .i64 r) ∧ r ≤ left ∧ (0 ≤ r → n ≤ 1048576) ∧ w = w' := by
  unfold maxLen at hl
  go_enter Tryz.func48, Tryz.ntmps48
  go_wp2
  all_goals
    go_ret
    exact ⟨_, rfl, by omega, by omega, rfl⟩
theorem szNode_any (x : GNode) (left : Int) (w : World) (h1 : 0 ≤ left) (h2 : left ≤ 1048576) (hs : x.name.size ≤ maxLen) :
    Calls Tryz.prog 81 #[.agg #[.string x.name, .int .i64 x.low, .int .i64 x.high], .int .i64 left] w fun e w' => ∃ r : Int, e = .returned (.int .i64 r) ∧ r ≤ left ∧ Gr w w' := by
  unfold maxLen at hs
  go_enter Tryz.func81, Tryz.ntmps81
  go_wp2
  all_goals
    go_ret
    exact ⟨_, rfl, by omega, (Gr.refl _).alloc _⟩
theorem szNodeS_any (A : Option Addr) (n c : Nat) (ns : List GNode) (left : Int) (w : World) (h1 : 0 ≤ left) (h2 : left ≤ 1048576) (hl : n ≤ maxLen)
  (hs : ∀ x ∈ ns, x.name.size ≤ maxLen) (hA : Sl w 3 A n (ns.flatMap GNode.cells)) :
    Calls Tryz.prog 47 #[.slice A n c, .int .i64 left] w fun e w' => ∃ r : Int, e = .returned (.int .i64 r) ∧ r ≤ left ∧ (0 ≤ r → n ≤ 1048576) ∧ Gr w w' := by
  unfold maxLen at hl
  have hlen := hA.len GNode.cells_len (by omega)
  have Hlen := Lib.hid hlen
  have HA := Lib.hid hA
  have Hs := Lib.hid hs
  clear hA hs hlen
  by_cases h : left < n
  · go_enter Tryz.func47, Tryz.ntmps47
    go_wp2
    go_ret
    exact ⟨_, rfl, by omega, by omega, Gr.refl _⟩
  · have hd : decide (left - (n : Int) < 0) = false := by simp; omega
    go_enter Tryz.func47, Tryz.ntmps47
    go_wp2_with fail
    go_loopw [1, 5, 23] (fun l i _ wr => ∃ k : Nat, ∃ q : Int, k ≤ n ∧ i = .int .i64 k ∧ l = .int .i64 q ∧ 0 ≤ q ∧ q ≤ left ∧ Gr w wr) (fun _ i _ _ => n - (intOf i).toNat)
    case atStart => exact ⟨0, _, Nat.zero_le _, rfl, rfl, by omega, by omega, Gr.refl _⟩
    case round =>
      obtain ⟨k, q, hk, rfl, rfl, hq1, hq2, hgr⟩ := hrel
      by_cases hlt : k < n
      · obtain ⟨x, hx⟩ : ∃ x, ns[k]? = some x := ⟨_, List.getElem?_eq_getElem (by have := Hlen.out; omega)⟩
        have hxs := Hs.out x (List.mem_of_getElem? hx)
        obtain ⟨b, o, rfl, hb, e0, e1, e2⟩ := (HA.out.gr hgr).nd hx
        clear hx
        go_wp2_with fail
        refine (szNode_any x q _ hq1 (by omega) hxs).mono ?_
        rintro e w' ⟨r, rfl, hr, hg1⟩
        by_cases hr0 : r < 0
        · go_wp2_with fail
          go_ret
          exact ⟨_, rfl, by omega, by omega, hgr.trans hg1⟩
        · go_wp2_with fail
          go_roundw
          case rel => exact ⟨k + 1, r, by omega, by go_num, rfl, by omega, by omega, hgr.trans hg1⟩
          case measure => simp [intOf]; omega
      · obtain rfl : k = n := by omega
        go_wp2_with fail
        go_ret
        exact ⟨_, rfl, by omega, by omega, hgr⟩
theorem szNetwork_any (A1 A2 : Option Addr) (n1 c1 n2 c2 : Nat) (n : GNet) (left : Int) (w : World) (h1 : 0 ≤ left) (h2 : left ≤ 1048576) (hl1 : n1 ≤ maxLen) (hl2 : n2 ≤ maxLen) (hA : NetRaw w A1 n1 A2 n2 n) :
    Calls Tryz.prog 10 #[.agg #[.slice A1 n1 c1, .slice A2 n2 c2], .int .i64 left] w fun e w' => ∃ r : Int, e = .returned (.int .i64 r) ∧ r ≤ left ∧ (0 ≤ r → n1 ≤ 1048576 ∧ n2 ≤ 1048576) ∧ Gr w w' := by
  have HA := Lib.hid hA
  clear hA
  go_enter Tryz.func10, Tryz.ntmps10
  go_wp2_with fail
  refine (szNodeS_any A1 n1 c1 n.nodes left _ h1 h2 hl1 HA.out.2.2 (HA.out.1.gr ((Gr.refl _).alloc _))).mono ?_
  rintro e w1 ⟨r, rfl, hr, hr2, hg1⟩
  have hc := hg1.has (p := ⟨w.heap.size, 1, none⟩) (v := .slice A2 n2 c2) (by simp [go_sem])
  by_cases hr0 : r < 0
  · go_wp2_with fail
    go_ret
    exact ⟨_, rfl, by omega, by omega, ((Gr.refl _).alloc _).trans hg1⟩
  · go_wp2_with fail
    refine (szPipeS_any A2 n2 c2 r _ (by omega) (by omega) hl2).mono ?_
    rintro e w2 ⟨r', rfl, hr', hr2', rfl⟩
    by_cases hr0' : r' < 0
    · go_wp2_with fail
      go_ret
      exact ⟨_, rfl, by omega, by omega, ((Gr.refl _).alloc _).trans hg1⟩
    · go_wp2_with fail
      go_ret
      exact ⟨_, rfl, by omega, fun h => ⟨hr2 (by omega), hr2' h⟩, ((Gr.refl _).alloc _).trans hg1⟩
end Go.Proofs.YthhmhigddmimjaaGreat
/-
  The law's helpers on networks: copies, comparison, marks.
-/
namespace Go.Proofs.YthhmhigddmimjaaGreat
open Go.ChangeShapes Go.WideShapes Go.ChangeAt Go.RowKit

theorem toNetwork_any (A1 A2 : Option Addr) (n1 c1 n2 c2 : Nat) (n : GNet) (w : World) (hl1 : n1 ≤ 1048576) (hl2 : n2 ≤ 1048576) (hA : NetRaw w A1 n1 A2 n2 n) :
    Calls Tryz.prog 12 #[.agg #[.slice A1 n1 c1, .slice A2 n2 c2]] w fun e w' => ∃ B1 d1 B2 d2, e = .returned (.agg #[.slice B1 n1 d1, .slice B2 n2 d2]) ∧ OwnNet w' w.heap.size B1 n1 d1 B2 n2 d2 n ∧ Gr w w' := by
  have HA := Lib.hid hA
  clear hA
  go_enter Tryz.func12, Tryz.ntmps12
  go_wp2_with fail
  refine (toNodeS_any A1 n1 c1 n.nodes _ hl1 (HA.out.1.gr ((((Gr.refl _).alloc _).alloc _).alloc _))).mono ?_
  rintro e w1 ⟨B1, d1, rfl, hown1, hg1⟩
  have Hown1 := Lib.hid hown1
  clear hown1
  have k1 := hg1.has (p := ⟨w.heap.size, 1, none⟩) (v := .slice A2 n2 c2) (by simp [go_sem])
  have k2 := hg1.has (p := ⟨w.heap.size + 1 + 1, 0, none⟩) (v := .slice none 0 0) (by simp [go_sem])
  have k3 := hg1.has (p := ⟨w.heap.size + 1 + 1, 1, none⟩) (v := .slice none 0 0) (by simp [go_sem])
  have k4 := hg1.has (p := ⟨w.heap.size + 1, 0, none⟩) (v := .slice none 0 0) (by simp [go_sem])
  have k5 := hg1.has (p := ⟨w.heap.size + 1, 1, none⟩) (v := .slice none 0 0) (by simp [go_sem])
  have f1 : w1.frozen? ⟨w.heap.size + 1 + 1, 0, none⟩ = false := by rw [hg1.frozen (by simp)]; simp [go_sem]
  have f2 : w1.frozen? ⟨w.heap.size + 1 + 1, 1, none⟩ = false := by rw [hg1.frozen (by simp)]; simp [go_sem]
  have f3 : w1.frozen? ⟨w.heap.size + 1, 0, none⟩ = false := by rw [hg1.frozen (by simp)]; simp [go_sem]
  have f4 : w1.frozen? ⟨w.heap.size + 1, 1, none⟩ = false := by rw [hg1.frozen (by simp)]; simp [go_sem]
  have hz := hg1.size
  simp at hz
  go_wp2_with fail
  have hgw : Gr w w1 := ((((Gr.refl _).alloc _).alloc _).alloc _).trans hg1
  have hgs : Gr w (w1.setCell ⟨w.heap.size + 1 + 1, 0, none⟩ (Value.slice B1 n1 d1)) := hgw.setCell (by show w.heap.size ≤ w.heap.size + 1 + 1; omega) _
  refine (toPipeS_any A2 n2 c2 n.pipes _ hl2 (HA.out.2.1.gr hgs)).mono ?_
  rintro e w2 ⟨B2, d2, rfl, hown2, hg2⟩
  have Hown2 := Lib.hid hown2
  clear hown2
  have g2 := hg2.has (p := ⟨w.heap.size + 1 + 1, 0, none⟩) (v := .slice B1 n1 d1) (by simp [go_sem, k2])
  have g3 := hg2.has (p := ⟨w.heap.size + 1 + 1, 1, none⟩) (v := .slice none 0 0) (by simp [go_sem, k3])
  have g4 := hg2.has (p := ⟨w.heap.size + 1, 0, none⟩) (v := .slice none 0 0) (by simp [go_sem, k4])
  have g5 := hg2.has (p := ⟨w.heap.size + 1, 1, none⟩) (v := .slice none 0 0) (by simp [go_sem, k5])
  have h1 : w2.frozen? ⟨w.heap.size + 1 + 1, 0, none⟩ = false := by rw [hg2.frozen (by simp; omega)]; simp [go_sem, f1]
  have h2 : w2.frozen? ⟨w.heap.size + 1 + 1, 1, none⟩ = false := by rw [hg2.frozen (by simp; omega)]; simp [go_sem, f2]
  have h3 : w2.frozen? ⟨w.heap.size + 1, 0, none⟩ = false := by rw [hg2.frozen (by simp; omega)]; simp [go_sem, f3]
  have h4 : w2.frozen? ⟨w.heap.size + 1, 1, none⟩ = false := by rw [hg2.frozen (by simp; omega)]; simp [go_sem, f4]
  clear k1 k2 k3 k4 k5 f1 f2 f3 f4
  go_wp2_with fail
  refine bodyPost_ret (v := .agg #[.slice B1 n1 d1, .slice B2 n2 d2]) (by simp [results, Tryz.results12, go_sem, g4, g5]) rfl ⟨B1, d1, B2, d2, rfl, ⟨?_, ?_, HA.out.2.2, hl1, hl2⟩, ?_⟩
  · have r1 := own_base Hown1.out (base' := w.heap.size + 1 + 1 + 1) (by simp)
    have r2 := own_gr (ownsRow_setCell_below r1 (a := ⟨w.heap.size + 1 + 1, 0, none⟩) (by simp) (Value.slice B1 n1 d1)) hg2
    exact own_base (ownsRow_setCell_below (ownsRow_setCell_below (ownsRow_setCell_below r2 (by simp) _) (by simp) _) (by simp) _) (by omega)
  · have r1 := own_base Hown2.out (base' := w.heap.size + 1 + 1 + 1) (by simp; omega)
    exact own_base (ownsRow_setCell_below (ownsRow_setCell_below (ownsRow_setCell_below r1 (by simp) _) (by simp) _) (by simp) _) (by omega)
  · exact (((hgs.trans hg2).setCell (by simp; omega) _).setCell (by simp) _).setCell (by simp) _

theorem eqNetwork_same (A1 A2 B1 B2 : Option Addr) (n1 c1 n2 c2 d1 d2 : Nat) (n : GNet) (w : World) (hA : NetAt w A1 n1 c1 A2 n2 c2 n) (hB : NetAt w B1 n1 d1 B2 n2 d2 n) :
    Calls Tryz.prog 15 #[.agg #[.slice A1 n1 c1, .slice A2 n2 c2], .agg #[.slice B1 n1 d1, .slice B2 n2 d2]] w fun e w' => e = .returned (.bool true) ∧ Gr w w' := by
  have HA := Lib.hid hA
  have HB := Lib.hid hB
  clear hA hB
  go_enter Tryz.func15, Tryz.ntmps15
  go_wp2_with fail
  refine (eqNodeS_same A1 B1 n1 c1 d1 n.nodes _ HA.out.m1 (HA.out.nodes.gr (((Gr.refl _).alloc _).alloc _)) (HB.out.nodes.gr (((Gr.refl _).alloc _).alloc _))).mono ?_
  rintro e w1 ⟨rfl, hg1⟩
  have k1 := hg1.has (p := ⟨w.heap.size, 1, none⟩) (v := .slice A2 n2 c2) (by simp [go_sem])
  have k2 := hg1.has (p := ⟨w.heap.size + 1, 1, none⟩) (v := .slice B2 n2 d2) (by simp [go_sem])
  have hgw : Gr w w1 := (((Gr.refl _).alloc _).alloc _).trans hg1
  go_wp2_with fail
  refine (eqPipeS_same A2 B2 n2 c2 d2 n.pipes _ HA.out.m2 (HA.out.pipes.gr hgw) (HB.out.pipes.gr hgw)).mono ?_
  rintro e w2 ⟨rfl, hg2⟩
  go_wp2_with fail
  go_ret
  exact ⟨rfl, hgw.trans hg2⟩
theorem markText_any (k : Int) (w : World) (h1 : 0 ≤ k) (h2 : k ≤ 1099511627776) :
    Calls Tryz.prog 100 #[.int .i64 k] w fun e w' => ∃ s : ByteArray, e = .returned (.string s) ∧ Gr w w' := by
  by_cases h : k ≤ 0
  · go_enter Tryz.func100, Tryz.ntmps100
    go_wp2_with fail
    go_ret
    exact ⟨_, rfl, Gr.refl _⟩
  · have hcv : ∀ (W : World) (v : Int) (t : TypeId), (convert 46 9 (.slice (some ⟨W.heap.size, 0, none⟩) 1 1)).run Tryz.prog (W.alloc (.cells #[.int .u8 v] t)) = .ok (.string (strOfNums [v])) (W.alloc (.cells #[.int .u8 v] t)) := by
      intro W v t
      refine run_convert_bytes_arg (P := Tryz.prog) _ 46 5 Tryz.underlying46 Tryz.underlying5 W.heap.size 0 1 1 [v] rfl ?_ _ Tryz.underlying9
      intro i hi
      obtain rfl : i = 0 := by omega
      simp [go_sem]
    have hsz : ∀ v : Int, (strOfNums [v]).size = 1 := fun v => rfl
    go_enter Tryz.func100, Tryz.ntmps100
    go_wp2_with fail
    go_loopw [0, 3] (fun i s wr => ∃ j : Int, ∃ t : ByteArray, i = .int .i64 j ∧ s = .string t ∧ 0 ≤ j ∧ j ≤ k ∧ (t.size : Int) + j ≤ k ∧ Gr w wr) (fun i _ _ => (intOf i).toNat)
    case atStart => exact ⟨k, _, rfl, rfl, by omega, by omega, by simp [ByteArray.size], Gr.refl _⟩
    case round =>
      obtain ⟨j, t, rfl, rfl, hj1, hj2, hj3, hgr⟩ := hrel
      by_cases hj : 0 < j
      · go_wp2_with fail
        go_roundw
        case rel => exact ⟨j / 10, _, rfl, rfl, by omega, by omega, by simp [hsz]; omega, hgr.alloc _⟩
        case measure => simp [intOf]; omega
      · go_wp2_with fail
        go_ret
        exact ⟨⟨_, rfl⟩, hgr⟩
theorem markNodeS_any (A : Option Addr) (n cp base : Nat) (e0 : TypeId) (ys : List GNode) (c0 : Int) (w : World) (hn : n ≤ 1048576) (h0 : 0 ≤ c0) (h1 : c0 ≤ 549755813888) (hA : w.ownsRow base e0 3 (.slice A n cp) n (ys.flatMap GNode.cells)) :
    Calls Tryz.prog 65 #[.slice A n cp, .int .i64 c0] w fun e w' => e = .returned (.int .i64 (c0 + 3 * n)) ∧ w.grownBy w' (Value.slice A n cp).ownBlock := by
  have HA := Lib.hid hA
  clear hA
  go_enter Tryz.func65, Tryz.ntmps65
  go_wp2_with fail
  go_loopw [1, 5, 15, 16, 17] (fun q i _ _ _ wr => ∃ k : Nat, ∃ c : Int, ∃ zs : List GNode, k ≤ n ∧ i = .int .i64 k ∧ q = .int .i64 c ∧ c = c0 + 3 * k ∧ wr.ownsRow base e0 3 (.slice A n cp) n (zs.flatMap GNode.cells) ∧ w.grownBy wr (Value.slice A n cp).ownBlock) (fun _ i _ _ _ _ => n - (intOf i).toNat)
  case atStart => exact ⟨0, c0, ys, Nat.zero_le _, rfl, rfl, by omega, HA.out, World.grownBy.refl w _⟩
  case round =>
    obtain ⟨k, c, zs, hk, rfl, rfl, hc, hown, hgr⟩ := hrel
    by_cases hlt : k < n
    · have c1 : 0 ≤ c := by omega
      have c2 : c ≤ 1099511627776 := by omega
      have hlen := own_len hown GNode.cells_len (by omega)
      obtain ⟨x, hx⟩ : ∃ x, zs[k]? = some x := ⟨_, List.getElem?_eq_getElem (by omega)⟩
      obtain ⟨g, rfl, _, _⟩ := own_form hown (by omega)
      have Hc := Lib.hid hc
      have Hg := Lib.hid hgr
      have Hown := Lib.hid hown
      have Hx := Lib.hid hx
      clear hown hc hx hgr hlen
      go_wp2_with fail
      refine (markText_any c _ (by omega) (by omega)).mono ?_
      rintro e w1 ⟨t, rfl, hg1⟩
      have hown := own_gr Hown.out hg1
      obtain ⟨d0, d1, d2, f0, f1, f2⟩ := own_nd hown Hx.out
      have R := own_set_nd hown ⟨t, c + 1, c + 1 + 1⟩ hlt
      have HR := Lib.hid R
      clear hown R
      go_wp2_with fail
      go_roundw
      case rel => exact ⟨k + 1, c + 1 + 1 + 1, _, by omega, by go_num, rfl, by have := Hc.out; omega, HR.out.1, grown_trans Hg.out (grown_trans (grown_gr hg1 _) HR.out.2)⟩
      case measure => simp [intOf]; omega
    · obtain rfl : k = n := by omega
      have Hc := Lib.hid hc
      clear hc
      go_wp2_with fail
      go_ret
      exact ⟨ret_int Hc.out, hgr⟩
/-- The marks on a network: what lies outside of its own two rows is as it was. -/
theorem markNetwork_any (A1 A2 : Option Addr) (n1 d1 n2 d2 lo hi : Nat) (n : GNet) (c0 : Int) (w : World) (h0 : 0 ≤ c0) (h1 : c0 ≤ 274877906944)
    (hA : OwnNet w lo A1 n1 d1 A2 n2 d2 n) (hh1 : ∀ k, (Value.slice A1 n1 d1).ownBlock = some k → k < hi) (hh2 : ∀ k, (Value.slice A2 n2 d2).ownBlock = some k → k < hi) :
    Calls Tryz.prog 23 #[.agg #[.slice A1 n1 d1, .slice A2 n2 d2], .int .i64 c0] w fun e w' => e = .returned (.int .i64 (c0 + 3 * n1 + 5 * n2)) ∧ Chg (fun k => lo ≤ k ∧ k < hi) w w' := by
  have HA := Lib.hid hA
  have H1 := Lib.hid hh1
  have H2 := Lib.hid hh2
  clear hA hh1 hh2
  have hl1 := HA.out.m1
  have hl2 := HA.out.m2
  have L1 := Lib.hid HA.out.nodes.lt
  have L2 := Lib.hid HA.out.pipes.lt
  have hne : (Value.slice A2 n2 d2).ownBlock = none ∨ (Value.slice A2 n2 d2).ownBlock ≠ (Value.slice A1 n1 d1).ownBlock := by
    obtain ⟨h1, h2, _, _, _⟩ := HA.out
    rcases h2.2 with ⟨hv, _⟩ | ⟨k, cap, cur, hv, _, hk, _⟩
    · left; rw [hv]; rfl
    · right
      rw [hv]
      rcases h1.2 with ⟨hu, _⟩ | ⟨k', cap', cur', hu, _, hk', _⟩
      · rw [hu]; simp [Value.ownBlock]
      · rw [hu]
        simp only [Value.ownBlock, ne_eq, Option.some.injEq]
        rintro rfl
        rw [hk] at hk'
        injection hk' with hk'
        injection hk' with _ ht
        simp at ht
  have Hne := Lib.hid hne
  clear hne
  go_enter Tryz.func23, Tryz.ntmps23
  go_wp2_with fail
  refine (markNodeS_any A1 n1 d1 lo 62 n.nodes c0 _ hl1 h0 (by omega) (own_gr HA.out.nodes ((Gr.refl _).alloc _))).mono ?_
  rintro e w1 ⟨rfl, hg1⟩
  have hb1 : ∀ k, (Value.slice A1 n1 d1).ownBlock = some k → k < w.heap.size := fun k hk => (L1.out k hk).2
  have k1 : w1.cell? ⟨w.heap.size, 1, none⟩ = some (.slice A2 n2 d2) := hg1.cell (by simp [go_sem]) (fun e => by have := hb1 _ e.symm; simp at this)
  have hown2 := (own_gr HA.out.pipes ((Gr.refl _).alloc (.cells #[.slice A1 n1 d1, .slice A2 n2 d2] 32))).kept hg1 Hne.out
  have Hown2 := Lib.hid hown2
  clear hown2
  go_wp2_with fail
  refine (markPipeS_any A2 n2 d2 lo 95 n.pipes _ _ hl2 (by omega) (by omega) Hown2.out).mono ?_
  rintro e w2 ⟨rfl, _, hg2⟩
  go_wp2_with fail
  go_ret
  refine ⟨rfl, ?_⟩
  have q1 : Chg (fun k => lo ≤ k ∧ k < hi) w w1 := (((Gr.refl w).alloc _).chg _).trans (chg_of_grown hg1 (fun k hk => ⟨(L1.out k hk).1, H1.out k hk⟩))
  exact q1.trans (chg_of_grown hg2 (fun k hk => ⟨(L2.out k hk).1, H2.out k hk⟩))
end Go.Proofs.YthhmhigddmimjaaGreat
/-
  Plain functions that the program and the reference both compute: networks.
-/
namespace Go.Proofs.YthhmhigddmimjaaGreat
open Go.RowKit

def inB (a n b : Int) : Bool := decide (a ≤ n) && decide (n ≤ b)
theorem inB_true {a n b : Int} (h : a ≤ n ∧ n ≤ b) : inB a n b = true := by simp [inB, h]
theorem inB_false {a n b : Int} (h : ¬ (a ≤ n ∧ n ≤ b)) : inB a n b = false := by simp [inB]; omega
theorem inB_iff {a n b : Int} : inB a n b = true ↔ a ≤ n ∧ n ≤ b := by simp [inB]
def byteOk (c : UInt8) : Bool := (decide (97 ≤ (c.toNat : Int)) && decide ((c.toNat : Int) ≤ 122)) || (decide (48 ≤ (c.toNat : Int)) && decide ((c.toNat : Int) ≤ 57))
def nameOk (s : ByteArray) : Bool := decide (1 ≤ s.size) && decide (s.size ≤ 8) && s.data.toList.all byteOk
def nodeOk (x : GNode) : Bool := nameOk x.name && decide (0 ≤ x.low) && decide (x.low ≤ x.high) && decide (x.high ≤ 100000000)
def pipeOk (nn : Int) (p : GPipe) : Bool := inB 0 p.src (nn - 1) && inB 0 p.dst (nn - 1) && !(p.src == p.dst) && inB 1 p.k 1000 && inB 0 p.vol 1000000 && inB 1 p.lim 30000
def sameName (x y : GNode) : Bool := x.name.toList == y.name.toList
def okAt (ns : List GNode) (k : Nat) : Bool := match ns[k]? with
  | some x => nodeOk x && !(ns.take k).any (fun y => sameName y x)
  | none => false
def netOk (n : GNet) : Bool := decide (1 ≤ n.nodes.length) && decide (n.nodes.length ≤ 24) && decide (n.pipes.length ≤ 40) && (List.range n.nodes.length).all (okAt n.nodes) && n.pipes.all (pipeOk n.nodes.length)

theorem byteOk_cases (c : UInt8) : ((c.toNat : Int) < 48 ∧ byteOk c = false) ∨ ((48 ≤ (c.toNat : Int) ∧ (c.toNat : Int) ≤ 57) ∧ byteOk c = true) ∨ ((57 < (c.toNat : Int) ∧ (c.toNat : Int) < 97) ∧ byteOk c = false) ∨
    ((97 ≤ (c.toNat : Int) ∧ (c.toNat : Int) ≤ 122) ∧ byteOk c = true) ∨ (122 < (c.toNat : Int) ∧ byteOk c = false) := by
  unfold byteOk
  generalize (c.toNat : Int) = n
  by_cases h1 : n < 48
  · left; exact ⟨h1, by simp; omega⟩
  by_cases h2 : n ≤ 57
  · right; left; exact ⟨⟨by omega, h2⟩, by simp; omega⟩
  by_cases h3 : n < 97
  · right; right; left; exact ⟨⟨by omega, h3⟩, by simp; omega⟩
  by_cases h4 : n ≤ 122
  · right; right; right; left; exact ⟨⟨by omega, h4⟩, by simp; omega⟩
  · right; right; right; right; exact ⟨by omega, by simp; omega⟩
theorem nameOk_bad {s : ByteArray} {k : Nat} (hk : k < s.size) (h : byteOk s[k] = false) : nameOk s = false := by
  unfold nameOk
  have : s.data.toList.all byteOk = false := by
    rw [List.all_eq_false]
    exact ⟨s[k], by rw [show s[k] = s.data.toList[k]'(by simpa using hk) from rfl]; exact List.getElem_mem _, by simp [h]⟩
  simp [this]
theorem nameOk_good {s : ByteArray} (h1 : 1 ≤ s.size) (h2 : s.size ≤ 8) (h : ∀ k (hk : k < s.size), byteOk s[k] = true) : nameOk s = true := by
  unfold nameOk
  have : s.data.toList.all byteOk = true := by
    rw [List.all_eq_true]
    intro c hc
    obtain ⟨k, hk, rfl⟩ := List.mem_iff_getElem.1 hc
    exact h k (by simpa using hk)
  simp [this, h1, h2]
theorem nameOk_size {s : ByteArray} (h : ¬ (1 ≤ s.size ∧ s.size ≤ 8)) : nameOk s = false := by
  unfold nameOk
  simp
  intro a b
  omega
theorem sameName_symm (x y : GNode) : sameName x y = sameName y x := by unfold sameName; exact Bool.eq_iff_iff.2 ⟨fun h => by simpa using (beq_iff_eq.1 h).symm, fun h => by simpa using (beq_iff_eq.1 h).symm⟩
theorem netOk_len {n : GNet} (h : ¬ (1 ≤ n.nodes.length ∧ n.nodes.length ≤ 24 ∧ n.pipes.length ≤ 40)) : netOk n = false := by
  unfold netOk
  by_cases h1 : 1 ≤ n.nodes.length <;> by_cases h2 : n.nodes.length ≤ 24 <;> by_cases h3 : n.pipes.length ≤ 40 <;> simp [h1, h2, h3]
  exact absurd ⟨h1, h2, h3⟩ h
theorem netOk_node {n : GNet} {k : Nat} (hk : k < n.nodes.length) (h : okAt n.nodes k = false) : netOk n = false := by
  unfold netOk
  have : (List.range n.nodes.length).all (okAt n.nodes) = false := by
    rw [List.all_eq_false]; exact ⟨k, by simpa using hk, by simp [h]⟩
  simp [this]
theorem netOk_pipe {n : GNet} {k : Nat} {p : GPipe} (hk : n.pipes[k]? = some p) (h : pipeOk n.nodes.length p = false) : netOk n = false := by
  unfold netOk
  have : n.pipes.all (pipeOk n.nodes.length) = false := by
    rw [List.all_eq_false]; exact ⟨p, List.mem_of_getElem? hk, by simp [h]⟩
  simp [this]
theorem netOk_good {n : GNet} (h1 : 1 ≤ n.nodes.length) (h2 : n.nodes.length ≤ 24) (h3 : n.pipes.length ≤ 40) (h4 : ∀ k, k < n.nodes.length → okAt n.nodes k = true) (h5 : ∀ (k : Nat) (p : GPipe), n.pipes[k]? = some p → pipeOk n.nodes.length p = true) : netOk n = true := by
  unfold netOk
  have e1 : (List.range n.nodes.length).all (okAt n.nodes) = true := by rw [List.all_eq_true]; intro k hk; exact h4 k (by simpa using hk)
  have e2 : n.pipes.all (pipeOk n.nodes.length) = true := by
    rw [List.all_eq_true]; intro p hp
    obtain ⟨k, hk, rfl⟩ := List.mem_iff_getElem.1 hp
    exact h5 k _ (List.getElem?_eq_getElem hk)
  simp [e1, e2, h1, h2, h3]
theorem okAt_bad {ns : List GNode} {k : Nat} {x : GNode} (hk : ns[k]? = some x) (h : nodeOk x = false) : okAt ns k = false := by simp [okAt, hk, h]
theorem okAt_dup {ns : List GNode} {k j : Nat} {x y : GNode} (hk : ns[k]? = some x) (hj : j < k) (hy : ns[j]? = some y) (h : sameName y x = true) : okAt ns k = false := by
  have : (ns.take k).any (fun y => sameName y x) = true := by
    rw [List.any_eq_true]
    exact ⟨y, List.mem_of_getElem? (i := j) (by rw [List.getElem?_take, if_pos hj]; exact hy), h⟩
  simp [okAt, hk, this]
theorem okAt_good {ns : List GNode} {k : Nat} {x : GNode} (hk : ns[k]? = some x) (h : nodeOk x = true) (hd : ∀ j, j < k → ∀ y, ns[j]? = some y → sameName y x = false) : okAt ns k = true := by
  have : (ns.take k).any (fun y => sameName y x) = false := by
    rw [List.any_eq_false]
    intro y hy
    obtain ⟨j, hj, rfl⟩ := List.mem_iff_getElem.1 hy
    have hjk : j < k := by simp at hj; omega
    rw [hd j hjk _ (by rw [← List.getElem?_eq_getElem hj, List.getElem?_take, if_pos hjk])]
    simp
  simp [okAt, hk, h, this]
theorem okAt_any {ns : List GNode} {k : Nat} {x : GNode} (hk : ns[k]? = some x) (h : nodeOk x = true) : okAt ns k = !(ns.take k).any (fun y => sameName y x) := by simp [okAt, hk, h]
/-- What a valid network is good for. -/
theorem netOk_all {n : GNet} (h : netOk n = true) : (1 ≤ n.nodes.length ∧ n.nodes.length ≤ 24 ∧ n.pipes.length ≤ 40) ∧ ∀ (k : Nat) (p : GPipe), n.pipes[k]? = some p → pipeOk n.nodes.length p = true := by
  unfold netOk at h
  simp only [Bool.and_eq_true, decide_eq_true_eq, List.all_eq_true] at h
  obtain ⟨⟨⟨⟨a, b⟩, c⟩, _⟩, e⟩ := h
  exact ⟨⟨a, b, c⟩, fun k p hp => e p (List.mem_of_getElem? hp)⟩
theorem pipeOk_all {nn : Int} {p : GPipe} (h : pipeOk nn p = true) : (0 ≤ p.src ∧ p.src ≤ nn - 1) ∧ (0 ≤ p.dst ∧ p.dst ≤ nn - 1) ∧ p.src ≠ p.dst ∧ (1 ≤ p.k ∧ p.k ≤ 1000) ∧ (0 ≤ p.vol ∧ p.vol ≤ 1000000) ∧ (1 ≤ p.lim ∧ p.lim ≤ 30000) := by
  unfold pipeOk at h
  simp only [Bool.and_eq_true, inB_iff, Bool.not_eq_true', beq_eq_false_iff_ne, ne_eq] at h
  obtain ⟨⟨⟨⟨⟨a, b⟩, c⟩, d⟩, e⟩, f⟩ := h
  exact ⟨a, b, c, d, e, f⟩
end Go.Proofs.YthhmhigddmimjaaGreat
