/-
  Plain functions: the target, one sending. No program here.
-/
import Derived.Test.YtdoidehlklkfaaaFlowM4
namespace Go.Proofs.Ytdoidehlklkfaaa

def ng (lf : List Int) (v : Nat) : Bool := decide (lf.getD v 0 < 0)
def tgI (lf : List Int) (l : List Nat) : Int := match l.find? (ng lf) with
  | some t => (t : Int)
  | none => -1
theorem tgI_nil (lf : List Int) : tgI lf [] = -1 := rfl
theorem tgI_yes {lf : List Int} {v : Nat} {l : List Nat} (h : ng lf v = true) : tgI lf (v :: l) = v := by simp [tgI, h]
theorem tgI_no {lf : List Int} {v : Nat} {l : List Nat} (h : ng lf v = false) : tgI lf (v :: l) = tgI lf l := by simp [tgI, h]
theorem tgI_none {lf : List Int} {l : List Nat} (h : l.find? (ng lf) = none) : tgI lf l = -1 := by simp [tgI, h]
theorem tgI_some {lf : List Int} {l : List Nat} {t : Nat} (h : l.find? (ng lf) = some t) : tgI lf l = t := by simp [tgI, h]
theorem drop_at {l : List Nat} {k v : Nat} (h : l[k]? = some v) : l.drop k = v :: l.drop (k + 1) := by
  have hk := (List.getElem?_eq_some_iff.1 h)
  rw [List.drop_eq_getElem_cons hk.1, hk.2]
/-- The first target of a search. -/
def tgt (es : List Ed) (fl lf : List Int) (N node : Nat) : Option Nat := (srch es fl N node).ord.find? (ng lf)
def sndA (es : List Ed) (fl lf : List Int) (N node t : Nat) : Int := amtOf es fl (srch es fl N node) (pth es (srch es fl N node) node t) (min (lf.getD node 0) (-(lf.getD t 0)))
def sndF (es : List Ed) (fl lf : List Int) (N node t : Nat) : List Int := pushes es (srch es fl N node) (sndA es fl lf N node t) (pth es (srch es fl N node) node t) fl
def sndL (es : List Ed) (fl lf : List Int) (N node t : Nat) : List Int := (lf.set node (lf.getD node 0 - sndA es fl lf N node t)).set t (lf.getD t 0 + sndA es fl lf N node t)
theorem tgt_tail {es : List Ed} {fl lf : List Int} {N node : Nat} (hE : EsOk es N) (hn : node < N) (h0 : 0 ≤ lf.getD node 0) : ((srch es fl N node).ord.drop 1).find? (ng lf) = tgt es fl lf N node := by
  have hd := (inv_srch (fl := fl) hE hn).hd
  unfold tgt
  have e := drop_at hd
  rw [List.drop_zero] at e
  have hng : ng lf node = false := decide_eq_false (by omega)
  conv => rhs; rw [e, List.find?_cons]
  simp [hng]
theorem tgt_spec {es : List Ed} {fl lf : List Int} {N node t : Nat} (h : tgt es fl lf N node = some t) : t ∈ (srch es fl N node).ord ∧ lf.getD t 0 < 0 := by
  refine ⟨List.mem_of_find?_eq_some h, ?_⟩
  have := List.find?_some h
  simpa [ng] using this
/-- What one sending moves. -/
theorem sndA_spec {es : List Ed} {fl lf : List Int} {N node t : Nat} (hE : EsOk es N) (hn : node < N) (h : tgt es fl lf N node = some t) (h0 : 0 < lf.getD node 0) : 0 < sndA es fl lf N node t ∧ sndA es fl lf N node t ≤ lf.getD node 0 ∧ sndA es fl lf N node t ≤ -(lf.getD t 0) := by
  obtain ⟨h1, h2⟩ := tgt_spec h
  have hI := inv_srch (fl := fl) hE hn
  have := (amtOf_le (es := es) (fl := fl) (s := srch es fl N node) (pth es (srch es fl N node) node t) (min (lf.getD node 0) (-(lf.getD t 0)))).1
  refine ⟨amtOf_pos _ (by omega) (pth_good hE hI h1).2.2, ?_, ?_⟩ <;> (unfold sndA; omega)
theorem sndF_keeps {es : List Ed} {fl lf : List Int} {N node t : Nat} (hE : EsOk es N) (hn : node < N) (hk : Keeps es fl) (h : tgt es fl lf N node = some t) (h0 : 0 < lf.getD node 0) : Keeps es (sndF es fl lf N node t) := by
  obtain ⟨h1, h2⟩ := tgt_spec h
  have hI := inv_srch (fl := fl) hE hn
  obtain ⟨a, b, c⟩ := pth_good hE hI h1
  exact pushes_keeps hE hI (Int.le_of_lt (sndA_spec hE hn h h0).1) _ a b hk (fun v hv => amtOf_cap hv)
end Go.Proofs.Ytdoidehlklkfaaa
