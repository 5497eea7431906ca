/-
  Plain functions: what is reached by steps; the full flow between two nodes. No program here.
-/
import Derived.Test.YtdoidehlklkfaaaFlowM5
namespace Go.Proofs.Ytdoidehlklkfaaa

inductive Reach {α : Type} (go : α → Prop) (nx : α → α) : α → α → Prop
  | refl (a : α) : Reach go nx a a
  | step {a b : α} (h : go a) (r : Reach go nx (nx a) b) : Reach go nx a b
theorem Reach.snoc {α : Type} {go : α → Prop} {nx : α → α} {a b : α} (r : Reach go nx a b) (h : go b) : Reach go nx a (nx b) := by
  induction r with
  | refl a => exact .step h (.refl _)
  | step h' _ ih => exact .step h' (ih h)
theorem Reach.line {α : Type} {go : α → Prop} {nx : α → α} {c a b : α} (r : Reach go nx c a) (q : Reach go nx c b) : Reach go nx a b ∨ Reach go nx b a := by
  induction r with
  | refl _ => exact .inl q
  | step h r ih =>
    cases q with
    | refl _ => exact .inr (.step h r)
    | step _ q => exact ih q
theorem Reach.end_ {α : Type} {go : α → Prop} {nx : α → α} {a b : α} (r : Reach go nx a b) (h : ¬ go a) : a = b := by
  cases r with
  | refl _ => rfl
  | step h' _ => exact absurd h' h
theorem Reach.one {α : Type} {go : α → Prop} {nx : α → α} {c a b : α} (r : Reach go nx c a) (q : Reach go nx c b) (ha : ¬ go a) (hb : ¬ go b) : a = b := by
  rcases r.line q with h | h
  · exact h.end_ ha
  · exact (h.end_ hb).symm
noncomputable def fin {α : Type} [Nonempty α] (go : α → Prop) (nx : α → α) (c : α) : α := Classical.epsilon fun a => Reach go nx c a ∧ ¬ go a
theorem fin_eq {α : Type} [Nonempty α] {go : α → Prop} {nx : α → α} {c a : α} (r : Reach go nx c a) (h : ¬ go a) : fin go nx c = a := by
  have := Classical.epsilon_spec (p := fun a => Reach go nx c a ∧ ¬ go a) ⟨a, r, h⟩
  exact this.1.one r this.2 h

theorem pushes_len (es : List Ed) (s : St) (a : Int) (l : List Nat) (fl : List Int) : (pushes es s a l fl).length = fl.length := by
  induction l generalizing fl with
  | nil => rfl
  | cons v l ih => rw [pushes_cons, ih, push1_len]
theorem outOf_pushes {es : List Ed} {N node : Nat} (hE : EsOk es N) {fl0 : List Int} {s : St} (h : Inv es fl0 N node s) {a : Int} (j : Nat) : ∀ (v : Nat) (fl : List Int), s.ord[j]? = some v → v ≠ node → fl.length = es.length →
    outOf es (pushes es s a (pth es s node v) fl) node = outOf es fl node + a := by
  induction j using Nat.strongRecOn with
  | ind j ih =>
    intro v fl hj hv hl
    obtain ⟨e, i, _, hi, hij, _⟩ := h.back hE hj hv
    have hm := List.mem_of_getElem? hj
    rw [pth_step hE h hm hv, pushes_cons]
    have h1 := outOf_push hE h (a := a) hl hm hv
    by_cases hb : back es s v = node
    · rw [hb, pth_end]
      rw [if_pos hb] at h1
      exact h1
    · rw [ih i hij _ _ hi hb (by rw [push1_len]; exact hl), h1, if_neg hb]
      omega
theorem outOf_zero (es : List Ed) (v : Nat) : outOf es (List.replicate es.length 0) v = 0 := by
  unfold outOf
  have : ((List.range es.length).map fun p => (if (es.getD p dE).f = v then (List.replicate es.length (0 : Int)).getD p 0 else 0) - (if (es.getD p dE).t = v then (List.replicate es.length (0 : Int)).getD p 0 else 0)) = (List.range es.length).map fun _ => (0 : Int) := by
    refine List.map_congr_left fun p hp => ?_
    have : (List.replicate es.length (0 : Int)).getD p 0 = 0 := by rw [List.getD_eq_getElem?_getD, List.getElem?_replicate]; split <;> rfl
    rw [this]; simp
  rw [this]
  generalize es.length = m
  induction m with
  | zero => rfl
  | succ m ih => rw [List.range_succ, List.map_append, List.sum_append, ih]; rfl
theorem keeps_zero {es : List Ed} {N : Nat} (hE : EsOk es N) : Keeps es (List.replicate es.length 0) := by
  refine ⟨by simp, fun p e he => ?_⟩
  have : (List.replicate es.length (0 : Int)).getD p 0 = 0 := by rw [List.getD_eq_getElem?_getD, List.getElem?_replicate]; split <;> rfl
  have := hE.at_ p e he
  omega
def ffA (es : List Ed) (N node to : Nat) (fl : List Int) : Int := amtOf es fl (srch es fl N node) (pth es (srch es fl N node) node to) 1000000000000000000
def ffS (es : List Ed) (N node to : Nat) (fl : List Int) : List Int := pushes es (srch es fl N node) (ffA es N node to fl) (pth es (srch es fl N node) node to) fl
def ffGo (es : List Ed) (N node to : Nat) (fl : List Int) : Prop := to ∈ (srch es fl N node).ord
noncomputable def mfl (es : List Ed) (N node to : Nat) : List Int := fin (ffGo es N node to) (ffS es N node to) (List.replicate es.length 0)
theorem ff_step {es : List Ed} {N node to : Nat} (hE : EsOk es N) (hn : node < N) (hne : to ≠ node) {fl : List Int} (hk : Keeps es fl) (hg : ffGo es N node to fl) :
    0 < ffA es N node to fl ∧ ffA es N node to fl ≤ 60000 ∧ Keeps es (ffS es N node to fl) ∧ outOf es (ffS es N node to fl) node = outOf es fl node + ffA es N node to fl := by
  have hI := inv_srch (fl := fl) hE hn
  obtain ⟨a, b, c⟩ := pth_good hE hI hg
  have hpos : 0 < ffA es N node to fl := amtOf_pos _ (by decide) c
  obtain ⟨e, q1, _⟩ := hI.at hE hg hne
  have hmem : to ∈ pth es (srch es fl N node) node to := by rw [pth_step hE hI hg hne]; simp
  have hcap : ffA es N node to fl ≤ capOf es fl (srch es fl N node) to := amtOf_cap hmem
  have := cap_le hE hk q1
  obtain ⟨j, hj⟩ := List.mem_iff_getElem?.1 hg
  exact ⟨hpos, by omega, pushes_keeps hE hI (Int.le_of_lt hpos) _ a b hk (fun v hv => amtOf_cap hv), outOf_pushes hE hI j to fl hj hne hk.len⟩
/-- The remaining supplies of the reference's full flow. -/
def lfOf (es : List Ed) (N node to : Nat) (fl : List Int) : List Int := ((List.replicate N (0 : Int)).set node (1200000 - outOf es fl node)).set to (-(1200000 - outOf es fl node))
theorem lfOf_to {es : List Ed} {N node to : Nat} {fl : List Int} (ht : to < N) : (lfOf es N node to fl).getD to 0 = -(1200000 - outOf es fl node) := by
  rw [lfOf, List.getD_eq_getElem?_getD, List.getElem?_set_self (by simp [ht])]; rfl
theorem lfOf_node {es : List Ed} {N node to : Nat} {fl : List Int} (hn : node < N) (hne : to ≠ node) : (lfOf es N node to fl).getD node 0 = 1200000 - outOf es fl node := by
  rw [lfOf, List.getD_eq_getElem?_getD, List.getElem?_set_ne hne, List.getElem?_set_self (by simp [hn])]; rfl
theorem lfOf_other {es : List Ed} {N node to v : Nat} {fl : List Int} (h1 : v ≠ node) (h2 : v ≠ to) : (lfOf es N node to fl).getD v 0 = 0 := by
  rw [lfOf, List.getD_eq_getElem?_getD, List.getElem?_set_ne (fun e => h2 e.symm), List.getElem?_set_ne (fun e => h1 e.symm), List.getElem?_replicate]
  split <;> rfl
theorem ff_spec {es : List Ed} {N node to : Nat} (hE : EsOk es N) (hl : es.length ≤ 40) (hn : node < N) (ht : to < N) (hne : to ≠ node) {fl : List Int} (hk : Keeps es fl) (h00 : 0 ≤ outOf es fl node) :
    0 ≤ 1200000 - outOf es fl node ∧
    (ffGo es N node to fl → 0 < 1200000 - outOf es fl node ∧ tgt es fl (lfOf es N node to fl) N node = some to ∧ sndF es fl (lfOf es N node to fl) N node to = ffS es N node to fl ∧ sndL es fl (lfOf es N node to fl) N node to = lfOf es N node to (ffS es N node to fl)) ∧
    (¬ ffGo es N node to fl → tgt es fl (lfOf es N node to fl) N node = none) := by
  have hle := outOf_le hE hk node
  refine ⟨by omega, fun hg => ?_, fun hg => ?_⟩
  · obtain ⟨h1, h2, h3, h4⟩ := ff_step hE hn hne hk hg
    have h5 := outOf_le hE h3 node
    have hD : 0 < 1200000 - outOf es fl node := by omega
    have hng : ∀ v, ng (lfOf es N node to fl) v = true → v = to := by
      intro v hv
      have hv' : (lfOf es N node to fl).getD v 0 < 0 := by simpa [ng] using hv
      by_cases e1 : v = to
      · exact e1
      · by_cases e2 : v = node
        · rw [e2, lfOf_node hn hne] at hv'; omega
        · rw [lfOf_other e2 e1] at hv'; omega
    have htg : tgt es fl (lfOf es N node to fl) N node = some to := by
      cases hf : tgt es fl (lfOf es N node to fl) N node with
      | none =>
        have hf : (srch es fl N node).ord.find? (ng (lfOf es N node to fl)) = none := hf
        rw [List.find?_eq_none] at hf
        exact absurd (decide_eq_true (by rw [lfOf_to ht]; omega)) (hf to hg)
      | some t => rw [hng t (List.find?_some hf)]
    have hA : sndA es fl (lfOf es N node to fl) N node to = ffA es N node to fl := by
      rw [sndA, lfOf_node hn hne, lfOf_to ht]
      exact amtOf_min _ _ _ (by show ffA es N node to fl ≤ _; omega) (by omega)
    refine ⟨hD, htg, by rw [sndF, hA]; rfl, ?_⟩
    rw [sndL, hA, lfOf_node hn hne, lfOf_to ht, lfOf, lfOf, h4]
    have e0 : ∀ (L : List Int) (x y z d : Int), (((L.set node d).set to x).set node y).set to z = (L.set node y).set to z := by
      intro L x y z d
      rw [List.set_comm x y hne, List.set_set, List.set_set]
    rw [e0]
    have e1 : 1200000 - outOf es fl node - ffA es N node to fl = 1200000 - (outOf es fl node + ffA es N node to fl) := by omega
    have e2 : -(1200000 - outOf es fl node) + ffA es N node to fl = -(1200000 - (outOf es fl node + ffA es N node to fl)) := by omega
    rw [e1, e2]
  · have : (srch es fl N node).ord.find? (ng (lfOf es N node to fl)) = none := by
      rw [List.find?_eq_none]
      intro v hv hv'
      have hv' : (lfOf es N node to fl).getD v 0 < 0 := by simpa [ng] using hv'
      by_cases e1 : v = to
      · exact hg (by rw [← e1]; exact hv)
      · by_cases e2 : v = node
        · rw [e2, lfOf_node hn hne] at hv'; omega
        · rw [lfOf_other e2 e1] at hv'; omega
    exact this
end Go.Proofs.Ytdoidehlklkfaaa
