/-
  Plain functions: sums over components, codes and results of routing. No program here.
-/
import Derived.Test.YtbbecboihmmllaaFlowMs
import Derived.Test.YtbbecboihmmllaaSups
namespace Go.Proofs.Ytbbecboihmmllaa

def sumStep (c sup : List Int) (s : List Int) (i : Nat) : List Int := s.set (c.getD i 0).toNat (s.getD (c.getD i 0).toNat 0 + sup.getD i 0)
def sumTo (c sup : List Int) (N k : Nat) : List Int := (List.range k).foldl (sumStep c sup) (List.replicate N 0)
theorem sumTo_succ (c sup : List Int) (N k : Nat) : sumTo c sup N (k + 1) = sumStep c sup (sumTo c sup N k) k := by
  rw [sumTo, List.range_succ, List.foldl_append]; rfl
theorem sumTo_len (c sup : List Int) (N k : Nat) : (sumTo c sup N k).length = N := by
  induction k with
  | zero => simp [sumTo]
  | succ k ih => rw [sumTo_succ, sumStep, List.length_set]; exact ih
theorem getD_mem_or {l : List Int} (k : Nat) : l.getD k 0 = 0 ∨ l.getD k 0 ∈ l := by
  by_cases h : k < l.length
  · right
    rw [List.getD_eq_getElem?_getD, List.getElem?_eq_getElem h]
    exact List.getElem_mem _
  · left
    rw [List.getD_eq_getElem?_getD, List.getElem?_eq_none (by omega)]; rfl
theorem sumTo_bnd {c sup : List Int} {N : Nat} (hs : ∀ z ∈ sup, -30000 ≤ z ∧ z ≤ 30000) (k : Nat) : ∀ z ∈ sumTo c sup N k, -(30000 * (k : Int)) ≤ z ∧ z ≤ 30000 * k := by
  induction k with
  | zero =>
    intro z hz
    simp only [sumTo, List.range_zero, List.foldl_nil] at hz
    rw [(List.mem_replicate.1 hz).2]; omega
  | succ k ih =>
    intro z hz
    rw [sumTo_succ, sumStep] at hz
    rcases List.mem_or_eq_of_mem_set hz with h | h
    · have := ih z h; omega
    · have h1 : -(30000 * (k : Int)) ≤ (sumTo c sup N k).getD (c.getD k 0).toNat 0 ∧ (sumTo c sup N k).getD (c.getD k 0).toNat 0 ≤ 30000 * k := by
        rcases getD_mem_or (l := sumTo c sup N k) (c.getD k 0).toNat with e | e
        · rw [e]; omega
        · exact ih _ e
      have h2 : -30000 ≤ sup.getD k 0 ∧ sup.getD k 0 ≤ 30000 := by
        rcases getD_mem_or (l := sup) k with e | e
        · rw [e]; omega
        · exact hs _ e
      omega
theorem inB_le {a b z : Int} (h : inB a z b = true) : a ≤ z ∧ z ≤ b := by
  simpa [inB] using h
theorem supOk_all {nn : Nat} {zs : List Int} (h : supOk nn zs = true) : zs.length = nn ∧ ∀ z ∈ zs, -30000 ≤ z ∧ z ≤ 30000 := by
  rw [supOk, Bool.and_eq_true] at h
  refine ⟨of_decide_eq_true h.1, fun z hz => ?_⟩
  exact inB_le (List.all_eq_true.1 h.2 z hz)
def zeroB (l : List Int) : Bool := l.all fun z => inB 0 z 0
def evB (es : List Ed) (N : Nat) (sup : List Int) : Bool := zeroB (sumTo (comps es N) sup N N)
def suCode (n : GNet) (sup : List Int) : Int := if netOk n then (if supOk n.nodes.length sup then 0 else 3) else 1
def evCode (n : GNet) (sup : List Int) : Int := if suCode n sup = 0 then (if evB (eds n.pipes) n.nodes.length sup then 0 else 5) else suCode n sup
noncomputable def rsCode (n : GNet) (sup : List Int) : Int := if evCode n sup = 0 then (if zeroB (rt (eds n.pipes) n.nodes.length sup).2 then 0 else 7) else evCode n sup
noncomputable def rsRes (n : GNet) (sup : List Int) : List Int := if rsCode n sup = 0 then (rt (eds n.pipes) n.nodes.length sup).1 else []
noncomputable def routeB (n : GNet) (sup : List Int) : Bool := rsCode n sup == 0
theorem suCode_zero {n : GNet} {sup : List Int} (h : suCode n sup = 0) : netOk n = true ∧ supOk n.nodes.length sup = true := by
  rw [suCode] at h
  split at h
  · split at h
    · exact ⟨by assumption, by assumption⟩
    · exact absurd h (by decide)
  · exact absurd h (by decide)
theorem evCode_zero {n : GNet} {sup : List Int} (h : evCode n sup = 0) : suCode n sup = 0 ∧ evB (eds n.pipes) n.nodes.length sup = true := by
  rw [evCode] at h
  split at h
  · split at h
    · exact ⟨by assumption, by assumption⟩
    · exact absurd h (by decide)
  · exact absurd h (by assumption)
theorem supOk_bnd {nn : Nat} {sup : List Int} (h : supOk nn sup = true) : ∀ (k : Nat) (z : Int), sup[k]? = some z → -1000000000 ≤ z ∧ z ≤ 1000000000 := by
  intro k z hz
  have := (supOk_all h).2 z (List.mem_of_getElem? hz)
  omega
end Go.Proofs.Ytbbecboihmmllaa
