/-
  Plain: sorted and compacted lists of nodes. No program here.
-/
import Derived.Test.YthhmhigddmimjaaGreatSrt
import Derived.Test.YthhmhigddmimjaaGreatFlowB
import Derived.Test.YthhmhigddmimjaaGreatFlowB
import Derived.Test.YthhmhigddmimjaaGreatFlowMs
import Derived.Test.YthhmhigddmimjaaGreatRouteA
namespace Go.Proofs.YthhmhigddmimjaaGreat

def casts (l : List Nat) : List Int := l.map fun (x : Nat) => (x : Int)
theorem mem_casts' {l : List Nat} {x : Int} : x ∈ casts l ↔ ∃ v ∈ l, (v : Int) = x := List.mem_map
theorem pw_lt_ext {l m : List Int} (hl : l.Pairwise (· < ·)) (hm : m.Pairwise (· < ·)) (h : ∀ x, x ∈ l ↔ x ∈ m) : l = m := by
  have nd : ∀ {l : List Int}, l.Pairwise (· < ·) → l.Nodup := fun h => h.imp (fun h => by omega)
  refine List.Perm.eq_of_pairwise (le := (· < ·)) (fun a b _ _ h1 h2 => by omega) hl hm ?_
  exact (List.perm_ext_iff_of_nodup (nd hl) (nd hm)).2 h
theorem memTo_mem {ord : List Nat} {N v : Nat} : v ∈ memTo ord N ↔ v < N ∧ v ∈ ord := by simp [memTo]
theorem memTo_pw (ord : List Nat) (N : Nat) : (casts (memTo ord N)).Pairwise (· < ·) := by
  refine List.pairwise_map.2 ?_
  exact (List.Pairwise.filter _ List.pairwise_lt_range).imp (fun h => by omega)
theorem srt_nodes {ord : List Nat} {N : Nat} (hd : ord.Nodup) (hl : ∀ v ∈ ord, v < N) : srt (casts ord) = casts (memTo ord N) := by
  refine pw_lt_ext ?_ (memTo_pw _ _) fun x => ?_
  · have h1 := srt_pw (casts ord)
    have h2 : (srt (casts ord)).Nodup := (srt_perm _).nodup_iff.2 (by
      unfold casts
      exact List.pairwise_map.2 (hd.imp (fun h => by intro e; exact h (by omega))))
    exact (h1.and h2).imp (fun h => by have := h.1; have := h.2; omega)
  · rw [srt_mem, mem_casts', mem_casts']
    exact ⟨fun ⟨v, hv, e⟩ => ⟨v, memTo_mem.2 ⟨hl v hv, hv⟩, e⟩, fun ⟨v, hv, e⟩ => ⟨v, (memTo_mem.1 hv).2, e⟩⟩
/-- What the first k nodes with something left reach. -/
def blkTo (es : List Ed) (N : Nat) (fl lf : List Int) (k : Nat) : List Nat := ((List.range k).filter fun i => decide (0 < lf.getD i 0)).flatMap fun i => (srch es fl N i).ord
noncomputable def bkList (n : GNet) (sup : List Int) : List Nat := blkTo (eds n.pipes) n.nodes.length (rt (eds n.pipes) n.nodes.length sup).1 (rt (eds n.pipes) n.nodes.length sup).2 n.nodes.length
noncomputable def bkCode (n : GNet) (sup : List Int) : Int := if evCode n sup = 0 then (if bkList n sup = [] then 4 else 0) else evCode n sup
noncomputable def bkRes (n : GNet) (sup : List Int) : List Int := if bkCode n sup = 0 then casts (memTo (bkList n sup) n.nodes.length) else []
noncomputable def lcList (n : GNet) (a b : Nat) : List Nat := (srch (eds n.pipes) (mfl (eds n.pipes) n.nodes.length a b) n.nodes.length a).ord
noncomputable def lcRes (n : GNet) (a b : Int) : List Int := if gfCode n a b = 0 then casts (memTo (lcList n a.toNat b.toNat) n.nodes.length) else []
end Go.Proofs.YthhmhigddmimjaaGreat
