/-
  Plain functions: one step of a way. No program here.
-/
import Derived.Test.YtdoidehlklkfaaaFlowM3
namespace Go.Proofs.Ytdoidehlklkfaaa

theorem amtOf_cons (es : List Ed) (fl : List Int) (s : St) (v : Nat) (l : List Nat) (a : Int) : amtOf es fl s (v :: l) a = amtOf es fl s l (min a (capOf es fl s v)) := rfl
theorem pushes_cons (es : List Ed) (s : St) (a : Int) (v : Nat) (l : List Nat) (fl : List Int) : pushes es s a (v :: l) fl = pushes es s a l (push1 es s a fl v) := rfl
/-- What one step of the way keeps. -/
theorem push1_step {es : List Ed} {N node : Nat} (hE : EsOk es N) {fl0 : List Int} {s : St} (h : Inv es fl0 N node s) {a : Int} (ha : 0 ≤ a) {v : Nat} {l : List Nat} (hl : ∀ u ∈ v :: l, u ∈ s.ord ∧ u ≠ node) (hn : (v :: l).Nodup) {fl : List Int} (hk : Keeps es fl) (hc : ∀ u ∈ v :: l, a ≤ capOf es fl s u) :
    Keeps es (push1 es s a fl v) ∧ ∀ u ∈ l, a ≤ capOf es (push1 es s a fl v) s u := by
  rw [List.nodup_cons] at hn
  refine ⟨pushes_keeps hE h ha [v] (fun u hu => hl u (by simp at hu; simp [hu])) (by simp) hk (fun u hu => hc u (by simp at hu; simp [hu])), fun u hu => ?_⟩
  obtain ⟨hv, hvn⟩ := hl v (by simp)
  obtain ⟨hu1, hu2⟩ := hl u (by simp [hu])
  have hne : s.ent.getD v 0 ≠ s.ent.getD u 0 := fun e => hn.1 (by rw [ent_inj hE h hv hu1 hvn hu2 e]; exact hu)
  rw [capOf, room_push hne]
  exact hc u (by simp [hu])
/-- A node of the search that is not its beginning: its pipe, and the node before it. -/
theorem Inv.at {es : List Ed} {fl : List Int} {N node : Nat} (hE : EsOk es N) {s : St} (h : Inv es fl N node s) {v : Nat} (hv : v ∈ s.ord) (hvn : v ≠ node) :
    ∃ e, es[s.ent.getD v 0]? = some e ∧ touch e v = true ∧ oth e v = Go.Proofs.Ytdoidehlklkfaaa.back es s v ∧ Go.Proofs.Ytdoidehlklkfaaa.back es s v ∈ s.ord ∧ 0 < capOf es fl s v ∧ linked e (Go.Proofs.Ytdoidehlklkfaaa.back es s v) v ∧ e.f ≠ e.t := by
  obtain ⟨j, hj⟩ := List.mem_iff_getElem?.1 hv
  obtain ⟨e, i, q1, q2, q3, q4, q5, q6⟩ := h.back hE hj hvn
  have hed : es.getD (s.ent.getD v 0) dE = e := by rw [List.getD_eq_getElem?_getD, q1]; rfl
  refine ⟨e, q1, ?_, by rw [Go.Proofs.Ytdoidehlklkfaaa.back, hed], List.mem_of_getElem? q2, q4, q5, q6⟩
  rcases q5 with ⟨_, b⟩ | ⟨_, b⟩ <;> simp [touch, b]
theorem cap_le {es : List Ed} {N : Nat} (hE : EsOk es N) {fl : List Int} (hk : Keeps es fl) {s : St} {v : Nat} {e : Ed} (he : es[s.ent.getD v 0]? = some e) : capOf es fl s v ≤ 60000 := by
  have hed : es.getD (s.ent.getD v 0) dE = e := by rw [List.getD_eq_getElem?_getD, he]; rfl
  have h1 := hk.at_ _ e he
  have h2 := (hE.at_ _ e he).2.2.2
  rw [capOf, room, hed]
  split <;> omega
/-- The way from a node of the search: all its nodes are of the search, have room, and differ. -/
theorem pth_good {es : List Ed} {fl : List Int} {N node : Nat} (hE : EsOk es N) {s : St} (h : Inv es fl N node s) {v : Nat} (hv : v ∈ s.ord) :
    (∀ u ∈ pth es s node v, u ∈ s.ord ∧ u ≠ node) ∧ (pth es s node v).Nodup ∧ ∀ u ∈ pth es s node v, 0 < capOf es fl s u := by
  obtain ⟨j, hj⟩ := List.mem_iff_getElem?.1 hv
  obtain ⟨a, b⟩ := pth_all hE h j v hj
  refine ⟨fun u hu => ?_, b, fun u hu => ?_⟩
  · obtain ⟨q1, i, _, q3⟩ := a u hu
    exact ⟨List.mem_of_getElem? q3, q1⟩
  · obtain ⟨q1, i, _, q3⟩ := a u hu
    obtain ⟨_, _, _, _, _, q, _⟩ := h.at hE (List.mem_of_getElem? q3) q1
    exact q
theorem amtOf_cap {es : List Ed} {fl : List Int} {s : St} {l : List Nat} {v : Nat} {a : Int} (hv : v ∈ l) : amtOf es fl s l a ≤ capOf es fl s v := (amtOf_le l a).2 v hv
end Go.Proofs.Ytdoidehlklkfaaa
