/-
  Plain functions: the end of the search, the path back, the amount and the new flows. No program here.
-/
import Derived.Test.YtdoidehlklkfaaaFlowM
namespace Go.Proofs.Ytdoidehlklkfaaa

theorem nodup_len {N : Nat} {l : List Nat} (hn : l.Nodup) (h : ∀ v ∈ l, v < N) : l.length ≤ N := by
  induction N generalizing l with
  | zero =>
    cases l with
    | nil => simp
    | cons a l => exact absurd (h a (by simp)) (by omega)
  | succ N ih =>
    have h1 : (l.erase N).length ≤ N := by
      refine ih (hn.erase N) fun v hv => ?_
      have := (hn.mem_erase_iff).1 hv
      have := h v this.2
      omega
    by_cases hm : N ∈ l
    · rw [List.length_erase_of_mem hm] at h1; omega
    · rw [List.erase_of_not_mem hm] at h1; omega
theorem Inv.len {es : List Ed} {fl : List Int} {N node : Nat} {s : St} (h : Inv es fl N node s) : s.ord.length ≤ N := nodup_len h.nd h.lt
theorem sst_stop {es : List Ed} {fl : List Int} {N node k : Nat} (h : (sst es fl N node k).ord.length ≤ k) (j : Nat) : sst es fl N node (k + j) = sst es fl N node k := by
  induction j with
  | zero => rfl
  | succ j ih =>
    rw [← Nat.add_assoc, sst, ih, List.getElem?_eq_none (by omega)]
def srch (es : List Ed) (fl : List Int) (N node : Nat) : St := sst es fl N node N
theorem srch_eq {es : List Ed} {fl : List Int} {N node k : Nat} (hE : EsOk es N) (hn : node < N) (h : (sst es fl N node k).ord.length = k) : sst es fl N node k = srch es fl N node := by
  have hk : k ≤ N := by have := (inv_sst hE hn k (fl := fl)).len; omega
  have := sst_stop (Nat.le_of_eq h) (N - k)
  rw [Nat.add_sub_cancel' hk] at this
  exact this.symm
theorem inv_srch {es : List Ed} {fl : List Int} {N node : Nat} (hE : EsOk es N) (hn : node < N) : Inv es fl N node (srch es fl N node) := inv_sst hE hn N

def back (es : List Ed) (s : St) (v : Nat) : Nat := oth (es.getD (s.ent.getD v 0) dE) v
def pthF (es : List Ed) (s : St) (node : Nat) : Nat → Nat → List Nat
  | 0, _ => []
  | F + 1, v => if v = node then [] else v :: pthF es s node F (back es s v)
theorem Inv.back {es : List Ed} {fl : List Int} {N node : Nat} (hE : EsOk es N) {s : St} (h : Inv es fl N node s) {j v : Nat} (hj : s.ord[j]? = some v) (hv : v ≠ node) :
    ∃ (e : Ed) (i : Nat), es[s.ent.getD v 0]? = some e ∧ s.ord[i]? = some (back es s v) ∧ i < j ∧ 0 < room es fl (s.ent.getD v 0) (back es s v) ∧ linked e (back es s v) v ∧ e.f ≠ e.t := by
  have h0 : 0 < j := by
    rcases Nat.eq_zero_or_pos j with h1 | h1
    · subst h1
      rw [h.hd] at hj
      injection hj with hj
      exact absurd hj.symm hv
    · exact h1
  obtain ⟨e, i, u, q1, q2, q3, q4, q5⟩ := h.en j v hj h0
  have hne := (hE.at_ _ e q1).2.2.1
  have hb : Go.Proofs.Ytdoidehlklkfaaa.back es s v = u := by
    have hed : es.getD (s.ent.getD v 0) dE = e := by rw [List.getD_eq_getElem?_getD, q1]; rfl
    rw [Go.Proofs.Ytdoidehlklkfaaa.back, hed, oth]
    rcases q5 with ⟨a, b⟩ | ⟨a, b⟩
    · rw [if_neg (by omega)]; exact a
    · rw [if_pos b]; exact a
  rw [hb]
  exact ⟨e, i, q1, q2, q3, q4, q5, hne⟩
theorem pthF_fuel {es : List Ed} {fl : List Int} {N node : Nat} (hE : EsOk es N) {s : St} (h : Inv es fl N node s) (j : Nat) : ∀ (v F F' : Nat), s.ord[j]? = some v → j ≤ F → j ≤ F' → pthF es s node F v = pthF es s node F' v := by
  induction j using Nat.strongRecOn with
  | ind j ih =>
    intro v F F' hj hF hF'
    by_cases hv : v = node
    · cases F <;> cases F' <;> simp [pthF, hv]
    · obtain ⟨e, i, _, hi, hij, _⟩ := h.back hE hj hv
      cases F with
      | zero => omega
      | succ F =>
        cases F' with
        | zero => omega
        | succ F' => rw [pthF, pthF, if_neg hv, if_neg hv, ih i hij _ F F' hi (by omega) (by omega)]
def pth (es : List Ed) (s : St) (node v : Nat) : List Nat := pthF es s node s.ord.length v
theorem pth_end (es : List Ed) (s : St) (node : Nat) : pth es s node node = [] := by
  unfold pth
  cases s.ord.length <;> simp [pthF]
theorem pth_step {es : List Ed} {fl : List Int} {N node : Nat} (hE : EsOk es N) {s : St} (h : Inv es fl N node s) {v : Nat} (hm : v ∈ s.ord) (hv : v ≠ node) : pth es s node v = v :: pth es s node (back es s v) := by
  obtain ⟨j, hj⟩ := List.mem_iff_getElem?.1 hm
  have hjl := (List.getElem?_eq_some_iff.1 hj).1
  obtain ⟨e, i, _, hi, hij, _⟩ := h.back hE hj hv
  have e1 : s.ord.length = (s.ord.length - 1) + 1 := by omega
  have e2 : pth es s node v = v :: pthF es s node (s.ord.length - 1) (back es s v) := by
    unfold pth
    rw [e1, pthF, if_neg hv]
    simp
  rw [e2, pth, pthF_fuel hE h i _ _ s.ord.length hi (by omega) (by omega)]
/-- What lies on a way back. -/
theorem pth_all {es : List Ed} {fl : List Int} {N node : Nat} (hE : EsOk es N) {s : St} (h : Inv es fl N node s) (j : Nat) : ∀ v, s.ord[j]? = some v →
    (∀ u ∈ pth es s node v, u ≠ node ∧ ∃ i, i ≤ j ∧ s.ord[i]? = some u) ∧ (pth es s node v).Nodup := by
  induction j using Nat.strongRecOn with
  | ind j ih =>
    intro v hj
    by_cases hv : v = node
    · subst hv; rw [pth_end]; simp
    · obtain ⟨e, i, _, hi, hij, _⟩ := h.back hE hj hv
      obtain ⟨a, b⟩ := ih i hij _ hi
      rw [pth_step hE h (List.mem_of_getElem? hj) hv]
      refine ⟨?_, ?_⟩
      · intro u hu
        rcases List.mem_cons.1 hu with rfl | hu
        · exact ⟨hv, j, Nat.le_refl _, hj⟩
        · obtain ⟨q1, i', q2, q3⟩ := a u hu
          exact ⟨q1, i', by omega, q3⟩
      · rw [List.nodup_cons]
        refine ⟨?_, b⟩
        intro hm
        obtain ⟨_, i', q2, q3⟩ := a v hm
        have := (List.getElem?_inj (List.getElem?_eq_some_iff.1 hj).1 h.nd).1 (hj.trans q3.symm)
        omega
/-- The pipes of a way are different. -/
theorem ent_inj {es : List Ed} {fl : List Int} {N node : Nat} (hE : EsOk es N) {s : St} (h : Inv es fl N node s) {u v : Nat} (hu : u ∈ s.ord) (hv : v ∈ s.ord) (hun : u ≠ node) (hvn : v ≠ node) (he : s.ent.getD u 0 = s.ent.getD v 0) : u = v := by
  obtain ⟨j, hj⟩ := List.mem_iff_getElem?.1 hu
  obtain ⟨k, hk⟩ := List.mem_iff_getElem?.1 hv
  obtain ⟨e1, i1, a1, a2, a3, _, a5, a6⟩ := h.back hE hj hun
  obtain ⟨e2, i2, b1, b2, b3, _, b5, _⟩ := h.back hE hk hvn
  rw [he, b1] at a1
  injection a1 with a1
  subst a1
  by_cases huv : u = v
  · exact huv
  · exfalso
    have h1 : back es s u = v ∧ back es s v = u := by
      rcases a5 with ⟨x1, x2⟩ | ⟨x1, x2⟩ <;> rcases b5 with ⟨y1, y2⟩ | ⟨y1, y2⟩ <;> omega
    rw [h1.1] at a2
    rw [h1.2] at b2
    have p1 := (List.getElem?_inj (List.getElem?_eq_some_iff.1 a2).1 h.nd).1 (a2.trans hk.symm)
    have p2 := (List.getElem?_inj (List.getElem?_eq_some_iff.1 b2).1 h.nd).1 (b2.trans hj.symm)
    omega
end Go.Proofs.Ytdoidehlklkfaaa
