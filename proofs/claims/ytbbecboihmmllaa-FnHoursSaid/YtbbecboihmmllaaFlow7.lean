/-
  The sending of the program.
-/
import Derived.Test.YtbbecboihmmllaaFlow6
import Derived.Test.YtbbecboihmmllaaFlowMs
namespace Go.Proofs.Ytbbecboihmmllaa
open Go.ChangeShapes Go.WideShapes Go.ChangeAt Go.RowKit

theorem own_sl_int {w : World} {base n c : Nat} {e : TypeId} {A : Option Addr} {fl : List Int} (h : w.ownsRow base e 1 (.slice A n c) n (ints fl)) (hn : n ≤ 1048576) : SlAt w 1 A n c (ints fl) := SlAt.of_own h hn
/-- The next node and its pipe. -/
theorem pipe_at {n : GNet} (hok : netOk n = true) {fl : List Int} {N node : Nat} (hE : EsOk (eds n.pipes) N) {s : St} (hI : Inv (eds n.pipes) fl N node s) {v : Nat} (hv : v ∈ s.ord) (hvn : v ≠ node) :
    ∃ x, n.pipes[s.ent.getD v 0]? = some x ∧ 0 ≤ x.src ∧ 0 ≤ x.dst ∧ touch (edOf x) v = true ∧ oth (edOf x) v = back (eds n.pipes) s v := by
  obtain ⟨e, q1, q2, q3, _⟩ := hI.at hE hv hvn
  simp only [eds, List.getElem?_map, Option.map_eq_some_iff] at q1
  obtain ⟨x, hx, rfl⟩ := q1
  obtain ⟨a1, a2, _⟩ := pipeOk_all ((netOk_all hok).2 _ x hx)
  exact ⟨x, hx, a1.1, a2.1, q2, q3⟩
theorem nat_at {w : World} {base n c g : Nat} {e : TypeId} {zs : List Nat} (h : w.ownsRow base e 1 (.slice (some ⟨g, 0, none⟩) n c) n (nats zs)) {k : Nat} (hk : k < n) : w.cell? ⟨g, k, none⟩ = some (.int .i64 (zs.getD k 0 : Nat)) := by
  have hl := own_ilen h
  simp only [List.length_map] at hl
  have : (zs.map fun (x : Nat) => (x : Int))[k]? = some ((zs.getD k 0 : Nat) : Int) := by simp [List.getD_eq_getElem?_getD, hl, hk]
  exact (own_int h this).1
theorem RtAt.grown {w w' : World} {g F : Nat} {A1 : Option Addr} {n1 c1 : Nat} {A2 : Option Addr} {n2 c2 : Nat} {A3 : Option Addr} {n3 c3 : Nat} {L : Value} (h : RtAt w g A1 n1 c1 A2 n2 c2 A3 n3 c3 L) (hg : w.grownBy w' (some F)) (hne : g ≠ F) : RtAt w' g A1 n1 c1 A2 n2 c2 A3 n3 c3 L := by
  have hl := lt_of_cell h.k0
  have e : ∀ j, w'.cell? ⟨g, j, none⟩ = w.cell? ⟨g, j, none⟩ := fun j => hg.cell_far _ hl (by simp; exact hne)
  exact ⟨(e 0).trans h.k0, (e 1).trans h.k1, (e 2).trans h.k2, (e 3).trans h.k3⟩
/-- What a flow is before and after a step. -/
theorem push1_val {ps : List GPipe} {s : St} {a : Int} {fl : List Int} {v : Nat} {x : GPipe} (hx : ps[s.ent.getD v 0]? = some x) (h0 : 0 ≤ x.dst) :
    push1 (eds ps) s a fl v = fl.set (s.ent.getD v 0) (if x.dst = (v : Int) then fl.getD (s.ent.getD v 0) 0 + a else fl.getD (s.ent.getD v 0) 0 - a) := by
  have e : (edOf x).t = x.dst.toNat := rfl
  rw [push1, eds_at hx, e]
  by_cases h : x.dst = (v : Int)
  · rw [if_pos (by omega), if_pos h]
  · rw [if_neg (by omega), if_neg h]

end Go.Proofs.Ytbbecboihmmllaa
