import Derived.Test.YthhmhigddmimjaaGreatFlowA
import Derived.Test.YthhmhigddmimjaaGreatText
import Derived.BigRegion
import Derived.ChangeAlike
import Derived.Test.YthhmhigddmimjaaGreatFlowMs
/-
  The search of the reference.
-/
namespace Go.Proofs.YthhmhigddmimjaaGreat
open Go.ChangeShapes Go.WideShapes Go.ChangeAt Go.RowKit

theorem foldl_vis_ord {es : List Ed} {fl : List Int} {v : Nat} (l : List Nat) (s : St) {k u : Nat} (h : s.ord[k]? = some u) : (l.foldl (vis es fl v) s).ord[k]? = some u := by
  induction l generalizing s with
  | nil => exact h
  | cons p l ih =>
    refine ih _ ?_
    unfold vis
    split
    · simp only
      rw [List.getElem?_append_left (List.getElem?_eq_some_iff.1 h).1]; exact h
    · exact h
theorem set_other {w : World} {a b : Addr} {u : Value} (h : w.cell? b = some u) (hne : a.block ≠ b.block) (v : Value) : (w.setCell a v).cell? b = some u :=
  (World.cell?_setCell_other _ _ _ _ (fun e => hne (by rw [e]))).trans h
theorem get_of_ltB {l : List Bool} {k : Nat} (h : k < l.length) : l[k]? = some (l.getD k true) := by simp [h]
theorem innTo_step {es : List Ed} {fl : List Int} {v : Nat} {s : St} {i p : Nat} (h : (atN es v)[i]? = some p) : innTo es fl v s (i + 1) = vis es fl v (innTo es fl v s i) p := by
  rw [innTo, List.take_add_one, h, Option.toList_some, List.foldl_append]; rfl
theorem innTo_full {es : List Ed} {fl : List Int} {v : Nat} {s : St} : innTo es fl v s (atN es v).length = inn es fl v s := by
  rw [innTo, List.take_length]; rfl
theorem sst_step {es : List Ed} {fl : List Int} {N node k v : Nat} (h : (sst es fl N node k).ord[k]? = some v) : sst es fl N node (k + 1) = inn es fl v (sst es fl N node k) := by
  rw [sst, h]
end Go.Proofs.YthhmhigddmimjaaGreat
/-
  The search of the program.
-/
namespace Go.Proofs.YthhmhigddmimjaaGreat
open Go.ChangeShapes Go.WideShapes Go.ChangeAt Go.RowKit

theorem blk_cell {w : World} {b : Nat} {cs : Array Value} {t : TypeId} {fr : Nat × Nat} (h : w.heap[b]? = some (.cells cs t fr)) {j : Nat} {v : Value} (hj : cs[j]? = some v) : w.cell? ⟨b, j, none⟩ = some v := by
  rw [cell_of_row w b j cs t fr h, hj]
theorem blk_frozen {w : World} {b : Nat} {cs : Array Value} {t : TypeId} (h : w.heap[b]? = some (.cells cs t (0, 0))) (j : Nat) : w.frozen? ⟨b, j, none⟩ = false := by
  simp [World.frozen?, h]
theorem blk_lt {w : World} {b : Nat} {ob : Obj} (h : w.heap[b]? = some ob) : b < w.heap.size := (Array.getElem?_eq_some_iff.1 h).1
theorem blk_gr {w w' : World} {b : Nat} {ob : Obj} (h : w.heap[b]? = some ob) (g : Gr w w') : w'.heap[b]? = some ob := (g.below.block b (blk_lt h)).trans h
theorem blk_grown {w w' : World} {b : Nat} {ob : Obj} {row : Option Nat} (h : w.heap[b]? = some ob) (g : w.grownBy w' row) (hne : row ≠ some b) : w'.heap[b]? = some ob := (g.block b (blk_lt h) (fun e => hne e.symm)).trans h
theorem blk_set {w : World} {b : Nat} {ob : Obj} (h : w.heap[b]? = some ob) {a : Addr} (hne : a.block ≠ b) (v : Value) : (w.setCell a v).heap[b]? = some ob := by
  simp [World.setCell, Array.getElem?_modify, hne, h]
/-- The rows and blocks of a search. -/
structure SiAt (w : World) (B P n1 : Nat) (O : Value) (s : St) : Prop where
  lt : B + 2 < P
  res : w.heap[B]? = some (.cells #[.slice none 0 0, .slice none 0 0, .slice none 0 0] 132 (0, 0))
  st : w.heap[P]? = some (.cells #[O, .slice none 0 0, .slice (some ⟨B + 2, 0, none⟩) n1 n1] 132 (0, 0))
  ent : w.ownsRow B 2 1 (.slice (some ⟨B + 2, 0, none⟩) n1 n1) n1 (nats s.ent)
  seen : w.ownsRow B 4 1 (.slice (some ⟨P + 1, 0, none⟩) n1 n1) n1 (bools s.seen)
  ord : w.ownsRow B 2 1 O s.ord.length (nats s.ord)
  oap : ∀ j, O.ownBlock = some j → j = B + 1 ∨ P + 2 ≤ j
theorem SiAt.gr {w w' : World} {B P n1 : Nat} {O : Value} {s : St} (q : SiAt w B P n1 O s) (hg : Gr w w') : SiAt w' B P n1 O s := ⟨q.lt, blk_gr q.res hg, blk_gr q.st hg, own_gr q.ent hg, own_gr q.seen hg, own_gr q.ord hg, q.oap⟩
theorem SiAt.big {w : World} {B P n1 : Nat} {O : Value} {s : St} (q : SiAt w B P n1 O s) : P + 1 < w.heap.size := own_block_lt q.seen rfl
theorem grown_drew {w w' : World} {ob : Obj} {row : Option Nat} (h : (w.drew.alloc ob).grownBy w' row) : (w.alloc ob).grownBy w' row := ⟨h.os, h.tape, h.output, h.size, h.block⟩
theorem grown_set (w : World) (a : Addr) (v : Value) : w.grownBy (w.setCell a v) (some a.block) :=
  ⟨rfl, rfl, rfl, by simp, fun k _ hne => by
    have : a.block ≠ k := fun e => hne (by rw [e])
    simp [World.setCell, Array.getElem?_modify, this]⟩
/-- A node is entered: two stores, an append and a store. -/
theorem SiAt.enter {w w3 : World} {B P n1 m cap g3 : Nat} {O : Value} {s : St} {o p : Nat} (q : SiAt w B P n1 O s)
    (h3 : w3.ownsRow B 2 1 (.slice (some ⟨g3, 0, none⟩) m cap) m (nats s.ord ++ [.int .i64 o])) (hm : m = s.ord.length + 1) {ob : Obj}
    (hg : (((w.setCell ⟨P + 1, o, none⟩ (.bool true)).setCell ⟨B + 2, o, none⟩ (.int .i64 p)).alloc ob).grownBy w3 O.ownBlock) (hat : O.ownBlock = some g3 ∨ g3 = w.heap.size + 1) :
    SiAt (w3.setCell ⟨P, 0, none⟩ (.slice (some ⟨g3, 0, none⟩) m cap)) B P n1 (.slice (some ⟨g3, 0, none⟩) m cap) ⟨s.ent.set o p, s.seen.set o true, s.ord ++ [o]⟩ := by
  have hlt := q.lt
  have hbig := q.big
  obtain ⟨a1, a2⟩ := own_set_bool q.seen o true
  have e1 := q.ent.kept a2 (Or.inr (by simp [Value.ownBlock]; omega))
  obtain ⟨b1, b2⟩ := own_set_nat e1 o p
  have s1 := a1.kept b2 (Or.inr (by simp [Value.ownBlock]; omega))
  have hO := q.oap
  have hg3 : g3 = B + 1 ∨ P + 2 ≤ g3 := by
    rcases hat with h | h
    · exact hO g3 h
    · omega
  have hn0 : O.ownBlock ≠ some B := fun e => by have := hO _ e; omega
  have hn2 : O.ownBlock ≠ some (B + 2) := fun e => by have := hO _ e; omega
  have hnP : O.ownBlock ≠ some P := fun e => by have := hO _ e; omega
  have hnQ : O.ownBlock ≠ some (P + 1) := fun e => by have := hO _ e; omega
  have K := grown_set w3 ⟨P, 0, none⟩ (.slice (some ⟨g3, 0, none⟩) m cap)
  refine ⟨q.lt, ?_, ?_, ?_, ?_, ?_, ?_⟩
  · exact blk_set (blk_grown (blk_gr (blk_set (blk_set q.res (by simp; omega) _) (by simp) _) ((Gr.refl _).alloc ob)) hg hn0) (by simp; omega) _
  · have h1 := blk_grown (blk_gr (blk_set (blk_set q.st (a := ⟨P + 1, o, none⟩) (by simp) (.bool true)) (a := ⟨B + 2, o, none⟩) (by simp; omega) (.int .i64 p)) ((Gr.refl _).alloc ob)) hg hnP
    simp [World.setCell, Array.getElem?_modify, h1]
  · exact ((b1.alloc ob).kept hg (Or.inr (fun e => hn2 (by rw [← e]; rfl)))).kept K (Or.inr (by simp [Value.ownBlock]; omega))
  · exact ((s1.alloc ob).kept hg (Or.inr (fun e => hnQ (by rw [← e]; rfl)))).kept K (Or.inr (by simp [Value.ownBlock]))
  · simp only [List.length_append, List.length_singleton]
    rw [← hm, nats_snoc]
    exact h3.kept K (Or.inr (by simp [Value.ownBlock]; omega))
  · intro j hj
    have : g3 = j := by simpa [Value.ownBlock] using hj
    omega

end Go.Proofs.YthhmhigddmimjaaGreat
/-
  The sending of the program.
-/
namespace Go.Proofs.YthhmhigddmimjaaGreat
open Go.ChangeShapes Go.WideShapes Go.ChangeAt Go.RowKit

theorem RtAt.grown {w w' : World} {g F : Nat} {A1 : Option Addr} {n1 c1 : Nat} {A2 : Option Addr} {n2 c2 : Nat} {A3 : Option Addr} {n3 c3 : Nat} {L : Value} (h : RtAt w g A1 n1 c1 A2 n2 c2 A3 n3 c3 L) (hg : w.grownBy w' (some F)) (hne : g ≠ F) : RtAt w' g A1 n1 c1 A2 n2 c2 A3 n3 c3 L := by
  have hl := lt_of_cell h.k0
  have e : ∀ j, w'.cell? ⟨g, j, none⟩ = w.cell? ⟨g, j, none⟩ := fun j => hg.cell_far _ hl (by simp; exact hne)
  exact ⟨(e 0).trans h.k0, (e 1).trans h.k1, (e 2).trans h.k2, (e 3).trans h.k3⟩
end Go.Proofs.YthhmhigddmimjaaGreat
/-
  The sending of the reference.
-/
namespace Go.Proofs.YthhmhigddmimjaaGreat
open Go.ChangeShapes Go.WideShapes Go.ChangeAt Go.RowKit

/-- Numbers of a row that is not great. -/
def BndL (M : Int) (l : List Int) : Prop := ∀ (k : Nat) (z : Int), l[k]? = some z → -M ≤ z ∧ z ≤ M
theorem get_int {l : List Int} {k : Nat} (h : k < l.length) : l[k]? = some (l.getD k 0) := by simp [h]
theorem cell_chg {w w' : World} {S : Nat → Prop} {a : Addr} {v : Value} (h : w.cell? a = some v) (hc : Chg S w w') (hs : ¬ S a.block) : w'.cell? a = some v := (World.cell?_of_block (hc.block a.block (lt_of_cell h) hs)).trans h
theorem chg_set {S : Nat → Prop} (w : World) (a : Addr) (v : Value) (h : S a.block) : Chg S w (w.setCell a v) := chg_of_grown (grown_set w a v) (fun k e => by injection e with e; rw [← e]; exact h)
theorem Chg.drew {S : Nat → Prop} {a b : World} (h : Chg S a b) : Chg S a b.drew := ⟨h.os, h.tape, h.output, h.size, h.block⟩

end Go.Proofs.YthhmhigddmimjaaGreat
