/-
  Plain functions: the search over pipes with room. No program here.
-/
import Derived.Test.YtdoidehlklkfaaaModel
namespace Go.Proofs.Ytdoidehlklkfaaa

structure Ed where
  f : Nat
  t : Nat
  lim : Int
def dE : Ed := ⟨0, 0, 0⟩
def edOf (p : GPipe) : Ed := ⟨p.src.toNat, p.dst.toNat, p.lim⟩
def eds (ps : List GPipe) : List Ed := ps.map edOf
def oth (e : Ed) (v : Nat) : Nat := if e.f = v then e.t else e.f
def room (es : List Ed) (fl : List Int) (p v : Nat) : Int := if (es.getD p dE).f = v then (es.getD p dE).lim - fl.getD p 0 else (es.getD p dE).lim + fl.getD p 0
def touch (e : Ed) (v : Nat) : Bool := decide (e.f = v) || decide (e.t = v)
def atN (es : List Ed) (v : Nat) : List Nat := (List.range es.length).filter fun i => touch (es.getD i dE) v
structure St where
  ent : List Nat
  seen : List Bool
  ord : List Nat
def goes (es : List Ed) (fl : List Int) (v : Nat) (s : St) (p : Nat) : Bool := !(s.seen.getD (oth (es.getD p dE) v) true) && decide (0 < room es fl p v)
def vis (es : List Ed) (fl : List Int) (v : Nat) (s : St) (p : Nat) : St :=
  if goes es fl v s p then ⟨s.ent.set (oth (es.getD p dE) v) p, s.seen.set (oth (es.getD p dE) v) true, s.ord ++ [oth (es.getD p dE) v]⟩ else s
def innTo (es : List Ed) (fl : List Int) (v : Nat) (s : St) (i : Nat) : St := ((atN es v).take i).foldl (vis es fl v) s
def inn (es : List Ed) (fl : List Int) (v : Nat) (s : St) : St := (atN es v).foldl (vis es fl v) s
def st0 (N node : Nat) : St := ⟨List.replicate N 0, (List.replicate N false).set node true, [node]⟩
def sst (es : List Ed) (fl : List Int) (N node : Nat) : Nat → St
  | 0 => st0 N node
  | k + 1 => match (sst es fl N node k).ord[k]? with
    | some v => inn es fl v (sst es fl N node k)
    | none => sst es fl N node k
structure EsOk (es : List Ed) (N : Nat) : Prop where
  at_ : ∀ (p : Nat) (e : Ed), es[p]? = some e → e.f < N ∧ e.t < N ∧ e.f ≠ e.t ∧ 1 ≤ e.lim ∧ e.lim ≤ 30000
def linked (e : Ed) (u v : Nat) : Prop := (e.f = u ∧ e.t = v) ∨ (e.t = u ∧ e.f = v)
structure Inv (es : List Ed) (fl : List Int) (N node : Nat) (s : St) : Prop where
  el : s.ent.length = N
  sl : s.seen.length = N
  nd : s.ord.Nodup
  sn : ∀ v, v < N → (s.seen.getD v true = true ↔ v ∈ s.ord)
  lt : ∀ v ∈ s.ord, v < N
  hd : s.ord[0]? = some node
  en : ∀ (j v : Nat), s.ord[j]? = some v → 0 < j → ∃ (e : Ed) (i u : Nat), es[s.ent.getD v 0]? = some e ∧ s.ord[i]? = some u ∧ i < j ∧ 0 < room es fl (s.ent.getD v 0) u ∧ linked e u v
theorem mem_atN {es : List Ed} {v p : Nat} : p ∈ atN es v ↔ p < es.length ∧ touch (es.getD p dE) v = true := by
  simp [atN]
theorem inv_st0 (es : List Ed) (fl : List Int) {N node : Nat} (h : node < N) : Inv es fl N node (st0 N node) where
  el := by simp [st0]
  sl := by simp [st0]
  nd := by simp [st0]
  sn := by
    intro v hv
    simp only [st0, List.mem_singleton]
    rw [List.getD_eq_getElem?_getD, List.getElem?_set]
    by_cases e : node = v
    · simp [e, hv]
    · simp [e, hv]; omega
  lt := by simp [st0]; exact h
  hd := by simp [st0]
  en := by
    intro j v hj h0
    cases j with
    | zero => omega
    | succ j => simp [st0] at hj
theorem inv_vis {es : List Ed} {fl : List Int} {N node : Nat} (hE : EsOk es N) {s : St} (h : Inv es fl N node s) {v p : Nat} (hv : v ∈ s.ord) (hp : p ∈ atN es v) : Inv es fl N node (vis es fl v s p) ∧ v ∈ (vis es fl v s p).ord := by
  unfold vis
  by_cases hg : goes es fl v s p = true
  · rw [if_pos hg]
    obtain ⟨hpl, htv⟩ := mem_atN.1 hp
    obtain ⟨e, he⟩ : ∃ e, es[p]? = some e := ⟨_, List.getElem?_eq_getElem hpl⟩
    have hed : es.getD p dE = e := by simp [he]
    obtain ⟨h1, h2, h3, h4, h5⟩ := hE.at_ p e he
    simp only [goes, Bool.and_eq_true, Bool.not_eq_true', decide_eq_true_eq] at hg
    obtain ⟨hg1, hg2⟩ := hg
    rw [hed] at hg1 htv ⊢
    obtain ⟨o, ho⟩ : ∃ o, o = oth e v := ⟨_, rfl⟩
    rw [← ho] at hg1 ⊢
    have hlk : linked e v o := by
      simp only [touch, Bool.or_eq_true, decide_eq_true_eq] at htv
      rw [ho, oth]
      by_cases hf : e.f = v
      · rw [if_pos hf]; exact Or.inl ⟨hf, rfl⟩
      · rw [if_neg hf]
        rcases htv with h | h
        · exact absurd h hf
        · exact Or.inr ⟨h, rfl⟩
    have hoN : o < N := by rcases hlk with ⟨_, h⟩ | ⟨_, h⟩ <;> omega
    have hno : o ∉ s.ord := by
      intro hm
      rw [(h.sn o hoN).2 hm] at hg1
      cases hg1
    obtain ⟨iv, hiv⟩ := List.mem_iff_getElem?.1 hv
    refine ⟨⟨by simp [h.el], by simp [h.sl], ?_, ?_, ?_, ?_, ?_⟩, List.mem_append_left _ hv⟩
    · rw [List.nodup_append]
      refine ⟨h.nd, by simp, ?_⟩
      intro a ha b hb
      simp only [List.mem_singleton] at hb
      subst hb
      intro e
      subst e
      exact hno ha
    · intro u hu
      simp only [List.mem_append, List.mem_singleton]
      rw [List.getD_eq_getElem?_getD, List.getElem?_set]
      by_cases e : o = u
      · subst e
        simp [h.sl, hoN]
      · rw [if_neg e, ← List.getD_eq_getElem?_getD, h.sn u hu]
        constructor
        · exact Or.inl
        · rintro (h | h)
          · exact h
          · exact absurd h.symm e
    · intro u hu
      simp only [List.mem_append, List.mem_singleton] at hu
      rcases hu with hu | hu
      · exact h.lt u hu
      · rw [hu]; exact hoN
    · have : 0 < s.ord.length := by have := h.hd; exact (List.getElem?_eq_some_iff.1 this).1
      rw [List.getElem?_append_left this]; exact h.hd
    · intro j u hj h0
      by_cases hjl : j < s.ord.length
      · rw [List.getElem?_append_left hjl] at hj
        have hne : o ≠ u := fun e => hno (by rw [e]; exact List.mem_of_getElem? hj)
        obtain ⟨e', i, u', q1, q2, q3, q4, q5⟩ := h.en j u hj h0
        have hent : (s.ent.set o p).getD u 0 = s.ent.getD u 0 := by
          rw [List.getD_eq_getElem?_getD, List.getElem?_set, if_neg hne, ← List.getD_eq_getElem?_getD]
        rw [hent]
        refine ⟨e', i, u', q1, ?_, q3, q4, q5⟩
        rw [List.getElem?_append_left (by omega)]; exact q2
      · have hjl' := (List.getElem?_eq_some_iff.1 hj).1
        simp only [List.length_append, List.length_singleton] at hjl'
        have : j = s.ord.length := by omega
        subst this
        rw [List.getElem?_append_right (Nat.le_refl _)] at hj
        simp only [Nat.sub_self, List.getElem?_cons_zero, Option.some.injEq] at hj
        subst hj
        have hent : (s.ent.set o p).getD o 0 = p := by
          rw [List.getD_eq_getElem?_getD, List.getElem?_set, if_pos rfl, if_pos (by rw [h.el]; exact hoN)]; rfl
        rw [hent]
        have hil := (List.getElem?_eq_some_iff.1 hiv).1
        exact ⟨e, iv, v, he, by rw [List.getElem?_append_left hil]; exact hiv, hil, hg2, hlk⟩
  · rw [if_neg hg]; exact ⟨h, hv⟩
theorem inv_fold {es : List Ed} {fl : List Int} {N node : Nat} (hE : EsOk es N) {v : Nat} (l : List Nat) (hl : ∀ p ∈ l, p ∈ atN es v) {s : St} (h : Inv es fl N node s) (hv : v ∈ s.ord) : Inv es fl N node (l.foldl (vis es fl v) s) ∧ v ∈ (l.foldl (vis es fl v) s).ord := by
  induction l generalizing s with
  | nil => exact ⟨h, hv⟩
  | cons p l ih =>
    obtain ⟨h1, h2⟩ := inv_vis hE h hv (hl p (by simp))
    exact ih (fun q hq => hl q (by simp [hq])) h1 h2
theorem inv_innTo {es : List Ed} {fl : List Int} {N node : Nat} (hE : EsOk es N) {v : Nat} {s : St} (h : Inv es fl N node s) (hv : v ∈ s.ord) (i : Nat) : Inv es fl N node (innTo es fl v s i) ∧ v ∈ (innTo es fl v s i).ord :=
  inv_fold hE _ (fun _ hp => List.mem_of_mem_take hp) h hv
theorem inv_sst {es : List Ed} {fl : List Int} {N node : Nat} (hE : EsOk es N) (hn : node < N) (k : Nat) : Inv es fl N node (sst es fl N node k) := by
  induction k with
  | zero => exact inv_st0 es fl hn
  | succ k ih =>
    rw [sst]
    split
    · rename_i v hv
      exact (inv_fold hE _ (fun _ hp => hp) ih (List.mem_of_getElem? hv)).1
    · exact ih
end Go.Proofs.Ytdoidehlklkfaaa
