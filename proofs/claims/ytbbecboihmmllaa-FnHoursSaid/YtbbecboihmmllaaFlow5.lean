/-
  The search of the reference.
-/
import Derived.Test.YtbbecboihmmllaaFlowA
import Derived.Test.YtbbecboihmmllaaText
namespace Go.Proofs.Ytbbecboihmmllaa
open Go.ChangeShapes Go.WideShapes Go.ChangeAt Go.RowKit

theorem foldl_vis_ord {es : List Ed} {fl : List Int} {v : Nat} (l : List Nat) (s : St) {k u : Nat} (h : s.ord[k]? = some u) : (l.foldl (vis es fl v) s).ord[k]? = some u := by
  induction l generalizing s with
  | nil => exact h
  | cons p l ih =>
    refine ih _ ?_
    unfold vis
    split
    · simp only
      rw [List.getElem?_append_left (List.getElem?_eq_some_iff.1 h).1]; exact h
    · exact h
theorem set_other {w : World} {a b : Addr} {u : Value} (h : w.cell? b = some u) (hne : a.block ≠ b.block) (v : Value) : (w.setCell a v).cell? b = some u :=
  (World.cell?_setCell_other _ _ _ _ (fun e => hne (by rw [e]))).trans h
theorem get_of_ltB {l : List Bool} {k : Nat} (h : k < l.length) : l[k]? = some (l.getD k true) := by simp [h]
theorem innTo_step {es : List Ed} {fl : List Int} {v : Nat} {s : St} {i p : Nat} (h : (atN es v)[i]? = some p) : innTo es fl v s (i + 1) = vis es fl v (innTo es fl v s i) p := by
  rw [innTo, List.take_add_one, h, Option.toList_some, List.foldl_append]; rfl
theorem innTo_full {es : List Ed} {fl : List Int} {v : Nat} {s : St} : innTo es fl v s (atN es v).length = inn es fl v s := by
  rw [innTo, List.take_length]; rfl
theorem sst_step {es : List Ed} {fl : List Int} {N node k v : Nat} (h : (sst es fl N node k).ord[k]? = some v) : sst es fl N node (k + 1) = inn es fl v (sst es fl N node k) := by
  rw [sst, h]
theorem st0_seen (N node : Nat) : (st0 N node).seen = (List.replicate N false).set node true := rfl

end Go.Proofs.Ytbbecboihmmllaa
