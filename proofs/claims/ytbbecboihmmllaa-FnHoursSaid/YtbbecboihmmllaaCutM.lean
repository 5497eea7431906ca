/-
  Plain: sorted and compacted lists of nodes. No program here.
-/
import Derived.Test.YtbbecboihmmllaaSrt
import Derived.Test.YtbbecboihmmllaaFlowB
import Derived.Test.YtbbecboihmmllaaFlowB
import Derived.Test.YtbbecboihmmllaaFlowMs
import Derived.Test.YtbbecboihmmllaaRouteM
namespace Go.Proofs.Ytbbecboihmmllaa

def casts (l : List Nat) : List Int := l.map fun (x : Nat) => (x : Int)
theorem nats_casts (l : List Nat) : nats l = ints (casts l) := rfl
theorem mem_casts' {l : List Nat} {x : Int} : x ∈ casts l ↔ ∃ v ∈ l, (v : Int) = x := List.mem_map
theorem pw_lt_ext {l m : List Int} (hl : l.Pairwise (· < ·)) (hm : m.Pairwise (· < ·)) (h : ∀ x, x ∈ l ↔ x ∈ m) : l = m := by
  have nd : ∀ {l : List Int}, l.Pairwise (· < ·) → l.Nodup := fun h => h.imp (fun h => by omega)
  refine List.Perm.eq_of_pairwise (le := (· < ·)) (fun a b _ _ h1 h2 => by omega) hl hm ?_
  exact (List.perm_ext_iff_of_nodup (nd hl) (nd hm)).2 h
theorem memTo_mem {ord : List Nat} {N v : Nat} : v ∈ memTo ord N ↔ v < N ∧ v ∈ ord := by simp [memTo]
theorem memTo_pw (ord : List Nat) (N : Nat) : (casts (memTo ord N)).Pairwise (· < ·) := by
  refine List.pairwise_map.2 ?_
  exact (List.Pairwise.filter _ List.pairwise_lt_range).imp (fun h => by omega)
theorem srt_nodes {ord : List Nat} {N : Nat} (hd : ord.Nodup) (hl : ∀ v ∈ ord, v < N) : srt (casts ord) = casts (memTo ord N) := by
  refine pw_lt_ext ?_ (memTo_pw _ _) fun x => ?_
  · have h1 := srt_pw (casts ord)
    have h2 : (srt (casts ord)).Nodup := (srt_perm _).nodup_iff.2 (by
      unfold casts
      exact List.pairwise_map.2 (hd.imp (fun h => by intro e; exact h (by omega))))
    exact (h1.and h2).imp (fun h => by have := h.1; have := h.2; omega)
  · rw [srt_mem, mem_casts', mem_casts']
    exact ⟨fun ⟨v, hv, e⟩ => ⟨v, memTo_mem.2 ⟨hl v hv, hv⟩, e⟩, fun ⟨v, hv, e⟩ => ⟨v, (memTo_mem.1 hv).2, e⟩⟩
theorem arr_get {zs : List Int} {j : Nat} (h : j < zs.length) : zs.toArray[j]! = zs[j] := by simp [getElem!_pos, h]
theorem compact_pw {zs : List Int} (h : zs.Pairwise (· ≤ ·)) : (Lib.compact zs).Pairwise (· < ·) := by
  unfold Lib.compact Lib.compactUpTo
  refine List.pairwise_map.2 ?_
  have h1 : ((List.range zs.length).filter (Lib.keeps zs.toArray)).Pairwise (· < ·) := List.Pairwise.filter _ List.pairwise_lt_range
  refine h1.imp_of_mem ?_
  intro i j hi hj hij
  obtain ⟨hi1, hi2⟩ := List.mem_filter.1 hi
  obtain ⟨hj1, hj2⟩ := List.mem_filter.1 hj
  have hi1 := List.mem_range.1 hi1
  have hj1 := List.mem_range.1 hj1
  have hk : zs.toArray[j]! ≠ zs.toArray[j - 1]! := by
    have : j = 0 ∨ zs.toArray[j]! ≠ zs.toArray[j - 1]! := by simpa [Lib.keeps] using hj2
    rcases this with h0 | h0
    · omega
    · exact h0
  rw [arr_get hj1, arr_get (show j - 1 < zs.length by omega)] at hk
  rw [arr_get hi1, arr_get hj1]
  have hp := List.pairwise_iff_getElem.1 h
  have a1 := hp (j - 1) j (by omega) hj1 (by omega)
  have a2 : zs[i] ≤ zs[j - 1]'(by omega) := by
    by_cases e : i = j - 1
    · subst e; exact Int.le_refl _
    · exact hp i (j - 1) hi1 (by omega) (by omega)
  omega
theorem compact_mem {zs : List Int} {x : Int} : x ∈ Lib.compact zs ↔ x ∈ zs := by
  unfold Lib.compact Lib.compactUpTo
  rw [List.mem_map]
  constructor
  · rintro ⟨j, hj, rfl⟩
    have hj1 := List.mem_range.1 (List.mem_filter.1 hj).1
    rw [arr_get hj1]
    exact List.getElem_mem _
  · intro hx
    obtain ⟨j, hj, e⟩ := List.mem_iff_getElem.1 hx
    induction j using Nat.strongRecOn with
    | _ j ih =>
      by_cases hk : Lib.keeps zs.toArray j = true
      · exact ⟨j, List.mem_filter.2 ⟨List.mem_range.2 hj, hk⟩, by rw [arr_get hj]; exact e⟩
      · have : j ≠ 0 ∧ zs.toArray[j]! = zs.toArray[j - 1]! := by simpa [Lib.keeps] using hk
        refine ih (j - 1) (by omega) (by omega) ?_
        have e2 := this.2
        rw [arr_get hj, arr_get (show j - 1 < zs.length by omega)] at e2
        rw [← e2]; exact e
theorem comp_nodes {l : List Nat} {N : Nat} (hl : ∀ v ∈ l, v < N) : Lib.compact (srt (casts l)) = casts (memTo l N) := by
  refine pw_lt_ext (compact_pw (srt_pw _)) (memTo_pw _ _) fun x => ?_
  rw [compact_mem, srt_mem, mem_casts', mem_casts']
  exact ⟨fun ⟨v, hv, e⟩ => ⟨v, memTo_mem.2 ⟨hl v hv, hv⟩, e⟩, fun ⟨v, hv, e⟩ => ⟨v, (memTo_mem.1 hv).2, e⟩⟩
/-- What the first k nodes with something left reach. -/
def blkTo (es : List Ed) (N : Nat) (fl lf : List Int) (k : Nat) : List Nat := ((List.range k).filter fun i => decide (0 < lf.getD i 0)).flatMap fun i => (srch es fl N i).ord
theorem bkt_yes {es : List Ed} {N : Nat} {fl lf : List Int} {k : Nat} (h : 0 < lf.getD k 0) : blkTo es N fl lf (k + 1) = blkTo es N fl lf k ++ (srch es fl N k).ord := by
  unfold blkTo
  rw [List.range_succ, List.filter_append, List.flatMap_append, List.filter_cons_of_pos (by simpa using h)]
  simp
theorem bkt_no {es : List Ed} {N : Nat} {fl lf : List Int} {k : Nat} (h : ¬ 0 < lf.getD k 0) : blkTo es N fl lf (k + 1) = blkTo es N fl lf k := by
  unfold blkTo
  rw [List.range_succ, List.filter_append, List.flatMap_append, List.filter_cons_of_neg (by simpa using h)]
  simp
theorem bkt_lt {es : List Ed} {N : Nat} {fl lf : List Int} {k : Nat} (hE : EsOk es N) (hk : k ≤ N) : ∀ v ∈ blkTo es N fl lf k, v < N := by
  intro v hv
  obtain ⟨i, hi, hv⟩ := List.mem_flatMap.1 hv
  have := List.mem_range.1 (List.mem_filter.1 hi).1
  exact (inv_srch hE (by omega)).lt v hv
theorem bkt_len {es : List Ed} {N : Nat} {fl lf : List Int} {k : Nat} (hE : EsOk es N) (hk : k ≤ N) : (blkTo es N fl lf k).length ≤ N * k := by
  induction k with
  | zero => simp [blkTo]
  | succ k ih =>
    have h1 := ih (by omega)
    by_cases h : 0 < lf.getD k 0
    · rw [bkt_yes h, List.length_append]
      have := (inv_srch (fl := fl) hE (show k < N by omega)).len
      rw [Nat.mul_succ]
      omega
    · rw [bkt_no h, Nat.mul_succ]
      omega
theorem memTo_nil {l : List Nat} {N : Nat} (hl : ∀ v ∈ l, v < N) : memTo l N = [] ↔ l = [] := by
  constructor
  · intro h
    cases l with
    | nil => rfl
    | cons a l =>
      have : a ∈ memTo (a :: l) N := memTo_mem.2 ⟨hl a (by simp), by simp⟩
      rw [h] at this
      cases this
  · rintro rfl
    simp [memTo]
noncomputable def bkList (n : GNet) (sup : List Int) : List Nat := blkTo (eds n.pipes) n.nodes.length (rt (eds n.pipes) n.nodes.length sup).1 (rt (eds n.pipes) n.nodes.length sup).2 n.nodes.length
noncomputable def bkCode (n : GNet) (sup : List Int) : Int := if evCode n sup = 0 then (if bkList n sup = [] then 4 else 0) else evCode n sup
noncomputable def bkRes (n : GNet) (sup : List Int) : List Int := if bkCode n sup = 0 then casts (memTo (bkList n sup) n.nodes.length) else []
noncomputable def lcList (n : GNet) (a b : Nat) : List Nat := (srch (eds n.pipes) (mfl (eds n.pipes) n.nodes.length a b) n.nodes.length a).ord
noncomputable def lcRes (n : GNet) (a b : Int) : List Int := if gfCode n a b = 0 then casts (memTo (lcList n a.toNat b.toNat) n.nodes.length) else []
end Go.Proofs.Ytbbecboihmmllaa
