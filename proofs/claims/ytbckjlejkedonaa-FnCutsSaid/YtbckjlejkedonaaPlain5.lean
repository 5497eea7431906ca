/-
  A set of nodes and its complement part the same pipes.
-/
import Derived.Test.YtbckjlejkedonaaCap
namespace Go.Proofs.Ytbckjlejkedonaa

/-- The nodes below k that are not in s. -/
def cplt (s : List Int) (k : Nat) : List Int := ((List.range k).map (fun (i : Nat) => (i : Int))).filter (fun i => !decide (i ∈ s))
theorem cplt_zero (s : List Int) : cplt s 0 = [] := rfl
theorem cplt_in {s : List Int} {k : Nat} (h : (k : Int) ∈ s) : cplt s (k + 1) = cplt s k := by
  unfold cplt
  rw [List.range_succ, List.map_append, List.filter_append]
  simp [h]
theorem cplt_out {s : List Int} {k : Nat} (h : (k : Int) ∉ s) : cplt s (k + 1) = cplt s k ++ [(k : Int)] := by
  unfold cplt
  rw [List.range_succ, List.map_append, List.filter_append]
  simp [h]
theorem cplt_len (s : List Int) (k : Nat) : (cplt s k).length ≤ k := by
  have := List.length_filter_le (fun i => !decide (i ∈ s)) ((List.range k).map (fun (i : Nat) => (i : Int)))
  simpa [cplt] using this
theorem cplt_mem {s : List Int} {k : Nat} {x : Int} : x ∈ cplt s k ↔ (0 ≤ x ∧ x < k) ∧ x ∉ s := by
  unfold cplt
  rw [List.mem_filter, List.mem_map]
  constructor
  · rintro ⟨⟨i, hi, rfl⟩, h⟩
    have := List.mem_range.1 hi
    exact ⟨⟨by omega, by omega⟩, by simpa using h⟩
  · rintro ⟨⟨h0, h1⟩, h⟩
    exact ⟨⟨x.toNat, List.mem_range.2 (by omega), by omega⟩, by simpa using h⟩
theorem cplt_pw (s : List Int) (k : Nat) : (cplt s k).Pairwise (· < ·) := by
  refine List.Pairwise.filter _ (List.pairwise_map.2 ?_)
  exact List.pairwise_lt_range.imp (fun h => by omega)
theorem pw_inc {s : List Int} (h : s.Pairwise (· < ·)) : incOk s = true := by
  rw [incOk, all_range]
  intro k hk
  unfold incAt
  by_cases h0 : k = 0
  · simp [h0]
  · have := List.pairwise_iff_getElem.1 h (k - 1) k (by omega) hk (by omega)
    have e1 : s.getD (k - 1) 0 = s[k - 1]'(by omega) := by simp [List.getD, List.getElem?_eq_getElem (show k - 1 < s.length by omega)]
    have e2 : s.getD k 0 = s[k] := by simp [List.getD, List.getElem?_eq_getElem hk]
    rw [e1, e2]
    simp [this]
theorem cplt_code {n : GNet} {s : List Int} (h : caCode n s = 0) : caCode n (cplt s n.nodes.length) = 0 := by
  have hn : netOk n = true := by
    unfold caCode at h
    split at h
    · assumption
    · simp at h
  rw [caCode, if_pos hn, ca_parts hn, pw_inc (cplt_pw s _), Bool.and_true, if_pos]
  rw [List.all_eq_true]
  intro x hx
  have := (cplt_mem.1 hx).1
  unfold inN inB
  simp
  omega
theorem cplt_val {n : GNet} {s : List Int} (h : caCode n s = 0) : capVal n (cplt s n.nodes.length) = capVal n s := by
  have hn : netOk n = true := by
    unfold caCode at h
    split at h
    · assumption
    · simp at h
  rw [capVal, if_pos (cplt_code h), capVal, if_pos h, capTo, capTo]
  congr 1
  refine List.map_congr_left fun p hp => ?_
  have hp' : p ∈ n.pipes := List.mem_of_mem_take hp
  obtain ⟨k, hk⟩ := List.getElem?_of_mem hp'
  have ho := pipeOk_all ((netOk_all hn).2 k _ hk)
  have e : ∀ x : Int, 0 ≤ x ∧ x < n.nodes.length → decide (x ∈ cplt s n.nodes.length) = !decide (x ∈ s) := by
    intro x hx
    by_cases hs : x ∈ s
    · have : ¬ x ∈ cplt s n.nodes.length := fun h' => (cplt_mem.1 h').2 hs
      simp [hs, this]
    · have : x ∈ cplt s n.nodes.length := cplt_mem.2 ⟨hx, hs⟩
      simp [hs, this]
  unfold capAt
  rw [e _ ⟨ho.1.1, by have := ho.1.2; omega⟩, e _ ⟨ho.2.1.1, by have := ho.2.1.2; omega⟩]
  cases decide (p.src ∈ s) <;> cases decide (p.dst ∈ s) <;> rfl
end Go.Proofs.Ytbckjlejkedonaa
