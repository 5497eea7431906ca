import Derived.Test.YthhmhigddmimjaaGreatCore
/-
  Plain functions: the search over pipes with room. No program here.
-/
namespace Go.Proofs.YthhmhigddmimjaaGreat

structure Ed where
  f : Nat
  t : Nat
  lim : Int
def dE : Ed := ⟨0, 0, 0⟩
def edOf (p : GPipe) : Ed := ⟨p.src.toNat, p.dst.toNat, p.lim⟩
def eds (ps : List GPipe) : List Ed := ps.map edOf
def oth (e : Ed) (v : Nat) : Nat := if e.f = v then e.t else e.f
def room (es : List Ed) (fl : List Int) (p v : Nat) : Int := if (es.getD p dE).f = v then (es.getD p dE).lim - fl.getD p 0 else (es.getD p dE).lim + fl.getD p 0
def touch (e : Ed) (v : Nat) : Bool := decide (e.f = v) || decide (e.t = v)
def atN (es : List Ed) (v : Nat) : List Nat := (List.range es.length).filter fun i => touch (es.getD i dE) v
structure St where
  ent : List Nat
  seen : List Bool
  ord : List Nat
def goes (es : List Ed) (fl : List Int) (v : Nat) (s : St) (p : Nat) : Bool := !(s.seen.getD (oth (es.getD p dE) v) true) && decide (0 < room es fl p v)
def vis (es : List Ed) (fl : List Int) (v : Nat) (s : St) (p : Nat) : St :=
  if goes es fl v s p then ⟨s.ent.set (oth (es.getD p dE) v) p, s.seen.set (oth (es.getD p dE) v) true, s.ord ++ [oth (es.getD p dE) v]⟩ else s
def innTo (es : List Ed) (fl : List Int) (v : Nat) (s : St) (i : Nat) : St := ((atN es v).take i).foldl (vis es fl v) s
def inn (es : List Ed) (fl : List Int) (v : Nat) (s : St) : St := (atN es v).foldl (vis es fl v) s
def st0 (N node : Nat) : St := ⟨List.replicate N 0, (List.replicate N false).set node true, [node]⟩
def sst (es : List Ed) (fl : List Int) (N node : Nat) : Nat → St
  | 0 => st0 N node
  | k + 1 => match (sst es fl N node k).ord[k]? with
    | some v => inn es fl v (sst es fl N node k)
    | none => sst es fl N node k
structure EsOk (es : List Ed) (N : Nat) : Prop where
  at_ : ∀ (p : Nat) (e : Ed), es[p]? = some e → e.f < N ∧ e.t < N ∧ e.f ≠ e.t ∧ 1 ≤ e.lim ∧ e.lim ≤ 30000
def linked (e : Ed) (u v : Nat) : Prop := (e.f = u ∧ e.t = v) ∨ (e.t = u ∧ e.f = v)
structure Inv (es : List Ed) (fl : List Int) (N node : Nat) (s : St) : Prop where
  el : s.ent.length = N
  sl : s.seen.length = N
  nd : s.ord.Nodup
  sn : ∀ v, v < N → (s.seen.getD v true = true ↔ v ∈ s.ord)
  lt : ∀ v ∈ s.ord, v < N
  hd : s.ord[0]? = some node
  en : ∀ (j v : Nat), s.ord[j]? = some v → 0 < j → ∃ (e : Ed) (i u : Nat), es[s.ent.getD v 0]? = some e ∧ s.ord[i]? = some u ∧ i < j ∧ 0 < room es fl (s.ent.getD v 0) u ∧ linked e u v
theorem mem_atN {es : List Ed} {v p : Nat} : p ∈ atN es v ↔ p < es.length ∧ touch (es.getD p dE) v = true := by
  simp [atN]
theorem inv_st0 (es : List Ed) (fl : List Int) {N node : Nat} (h : node < N) : Inv es fl N node (st0 N node) where
  el := by simp [st0]
  sl := by simp [st0]
  nd := by simp [st0]
  sn := by
    intro v hv
    simp only [st0, List.mem_singleton]
    rw [List.getD_eq_getElem?_getD, List.getElem?_set]
    by_cases e : node = v
    · simp [e, hv]
    · simp [e, hv]; omega
  lt := by simp [st0]; exact h
  hd := by simp [st0]
  en := by
    intro j v hj h0
    cases j with
    | zero => omega
    | succ j => simp [st0] at hj
theorem inv_vis {es : List Ed} {fl : List Int} {N node : Nat} (hE : EsOk es N) {s : St} (h : Inv es fl N node s) {v p : Nat} (hv : v ∈ s.ord) (hp : p ∈ atN es v) : Inv es fl N node (vis es fl v s p) ∧ v ∈ (vis es fl v s p).ord := by
  unfold vis
  by_cases hg : goes es fl v s p = true
  · rw [if_pos hg]
    obtain ⟨hpl, htv⟩ := mem_atN.1 hp
    obtain ⟨e, he⟩ : ∃ e, es[p]? = some e := ⟨_, List.getElem?_eq_getElem hpl⟩
    have hed : es.getD p dE = e := by simp [he]
    obtain ⟨h1, h2, h3, h4, h5⟩ := hE.at_ p e he
    simp only [goes, Bool.and_eq_true, Bool.not_eq_true', decide_eq_true_eq] at hg
    obtain ⟨hg1, hg2⟩ := hg
    rw [hed] at hg1 htv ⊢
    obtain ⟨o, ho⟩ : ∃ o, o = oth e v := ⟨_, rfl⟩
    rw [← ho] at hg1 ⊢
    have hlk : linked e v o := by
      simp only [touch, Bool.or_eq_true, decide_eq_true_eq] at htv
      rw [ho, oth]
      by_cases hf : e.f = v
      · rw [if_pos hf]; exact Or.inl ⟨hf, rfl⟩
      · rw [if_neg hf]
        rcases htv with h | h
        · exact absurd h hf
        · exact Or.inr ⟨h, rfl⟩
    have hoN : o < N := by rcases hlk with ⟨_, h⟩ | ⟨_, h⟩ <;> omega
    have hno : o ∉ s.ord := by
      intro hm
      rw [(h.sn o hoN).2 hm] at hg1
      cases hg1
    obtain ⟨iv, hiv⟩ := List.mem_iff_getElem?.1 hv
    refine ⟨⟨by simp [h.el], by simp [h.sl], ?_, ?_, ?_, ?_, ?_⟩, List.mem_append_left _ hv⟩
    · rw [List.nodup_append]
      refine ⟨h.nd, by simp, ?_⟩
      intro a ha b hb
      simp only [List.mem_singleton] at hb
      subst hb
      intro e
      subst e
      exact hno ha
    · intro u hu
      simp only [List.mem_append, List.mem_singleton]
      rw [List.getD_eq_getElem?_getD, List.getElem?_set]
      by_cases e : o = u
      · subst e
        simp [h.sl, hoN]
      · rw [if_neg e, ← List.getD_eq_getElem?_getD, h.sn u hu]
        constructor
        · exact Or.inl
        · rintro (h | h)
          · exact h
          · exact absurd h.symm e
    · intro u hu
      simp only [List.mem_append, List.mem_singleton] at hu
      rcases hu with hu | hu
      · exact h.lt u hu
      · rw [hu]; exact hoN
    · have : 0 < s.ord.length := by have := h.hd; exact (List.getElem?_eq_some_iff.1 this).1
      rw [List.getElem?_append_left this]; exact h.hd
    · intro j u hj h0
      by_cases hjl : j < s.ord.length
      · rw [List.getElem?_append_left hjl] at hj
        have hne : o ≠ u := fun e => hno (by rw [e]; exact List.mem_of_getElem? hj)
        obtain ⟨e', i, u', q1, q2, q3, q4, q5⟩ := h.en j u hj h0
        have hent : (s.ent.set o p).getD u 0 = s.ent.getD u 0 := by
          rw [List.getD_eq_getElem?_getD, List.getElem?_set, if_neg hne, ← List.getD_eq_getElem?_getD]
        rw [hent]
        refine ⟨e', i, u', q1, ?_, q3, q4, q5⟩
        rw [List.getElem?_append_left (by omega)]; exact q2
      · have hjl' := (List.getElem?_eq_some_iff.1 hj).1
        simp only [List.length_append, List.length_singleton] at hjl'
        have : j = s.ord.length := by omega
        subst this
        rw [List.getElem?_append_right (Nat.le_refl _)] at hj
        simp only [Nat.sub_self, List.getElem?_cons_zero, Option.some.injEq] at hj
        subst hj
        have hent : (s.ent.set o p).getD o 0 = p := by
          rw [List.getD_eq_getElem?_getD, List.getElem?_set, if_pos rfl, if_pos (by rw [h.el]; exact hoN)]; rfl
        rw [hent]
        have hil := (List.getElem?_eq_some_iff.1 hiv).1
        exact ⟨e, iv, v, he, by rw [List.getElem?_append_left hil]; exact hiv, hil, hg2, hlk⟩
  · rw [if_neg hg]; exact ⟨h, hv⟩
theorem inv_fold {es : List Ed} {fl : List Int} {N node : Nat} (hE : EsOk es N) {v : Nat} (l : List Nat) (hl : ∀ p ∈ l, p ∈ atN es v) {s : St} (h : Inv es fl N node s) (hv : v ∈ s.ord) : Inv es fl N node (l.foldl (vis es fl v) s) ∧ v ∈ (l.foldl (vis es fl v) s).ord := by
  induction l generalizing s with
  | nil => exact ⟨h, hv⟩
  | cons p l ih =>
    obtain ⟨h1, h2⟩ := inv_vis hE h hv (hl p (by simp))
    exact ih (fun q hq => hl q (by simp [hq])) h1 h2
theorem inv_innTo {es : List Ed} {fl : List Int} {N node : Nat} (hE : EsOk es N) {v : Nat} {s : St} (h : Inv es fl N node s) (hv : v ∈ s.ord) (i : Nat) : Inv es fl N node (innTo es fl v s i) ∧ v ∈ (innTo es fl v s i).ord :=
  inv_fold hE _ (fun _ hp => List.mem_of_mem_take hp) h hv
theorem inv_sst {es : List Ed} {fl : List Int} {N node : Nat} (hE : EsOk es N) (hn : node < N) (k : Nat) : Inv es fl N node (sst es fl N node k) := by
  induction k with
  | zero => exact inv_st0 es fl hn
  | succ k ih =>
    rw [sst]
    split
    · rename_i v hv
      exact (inv_fold hE _ (fun _ hp => hp) ih (List.mem_of_getElem? hv)).1
    · exact ih
end Go.Proofs.YthhmhigddmimjaaGreat
/-
  Plain functions: the end of the search, the path back, the amount and the new flows. No program here.
-/
namespace Go.Proofs.YthhmhigddmimjaaGreat

theorem nodup_len {N : Nat} {l : List Nat} (hn : l.Nodup) (h : ∀ v ∈ l, v < N) : l.length ≤ N := by
  induction N generalizing l with
  | zero =>
    cases l with
    | nil => simp
    | cons a l => exact absurd (h a (by simp)) (by omega)
  | succ N ih =>
    have h1 : (l.erase N).length ≤ N := by
      refine ih (hn.erase N) fun v hv => ?_
      have := (hn.mem_erase_iff).1 hv
      have := h v this.2
      omega
    by_cases hm : N ∈ l
    · rw [List.length_erase_of_mem hm] at h1; omega
    · rw [List.erase_of_not_mem hm] at h1; omega
theorem Inv.len {es : List Ed} {fl : List Int} {N node : Nat} {s : St} (h : Inv es fl N node s) : s.ord.length ≤ N := nodup_len h.nd h.lt
theorem sst_stop {es : List Ed} {fl : List Int} {N node k : Nat} (h : (sst es fl N node k).ord.length ≤ k) (j : Nat) : sst es fl N node (k + j) = sst es fl N node k := by
  induction j with
  | zero => rfl
  | succ j ih =>
    rw [← Nat.add_assoc, sst, ih, List.getElem?_eq_none (by omega)]
def srch (es : List Ed) (fl : List Int) (N node : Nat) : St := sst es fl N node N
theorem srch_eq {es : List Ed} {fl : List Int} {N node k : Nat} (hE : EsOk es N) (hn : node < N) (h : (sst es fl N node k).ord.length = k) : sst es fl N node k = srch es fl N node := by
  have hk : k ≤ N := by have := (inv_sst hE hn k (fl := fl)).len; omega
  have := sst_stop (Nat.le_of_eq h) (N - k)
  rw [Nat.add_sub_cancel' hk] at this
  exact this.symm
theorem inv_srch {es : List Ed} {fl : List Int} {N node : Nat} (hE : EsOk es N) (hn : node < N) : Inv es fl N node (srch es fl N node) := inv_sst hE hn N

def back (es : List Ed) (s : St) (v : Nat) : Nat := oth (es.getD (s.ent.getD v 0) dE) v
def pthF (es : List Ed) (s : St) (node : Nat) : Nat → Nat → List Nat
  | 0, _ => []
  | F + 1, v => if v = node then [] else v :: pthF es s node F (back es s v)
theorem Inv.back {es : List Ed} {fl : List Int} {N node : Nat} (hE : EsOk es N) {s : St} (h : Inv es fl N node s) {j v : Nat} (hj : s.ord[j]? = some v) (hv : v ≠ node) :
    ∃ (e : Ed) (i : Nat), es[s.ent.getD v 0]? = some e ∧ s.ord[i]? = some (back es s v) ∧ i < j ∧ 0 < room es fl (s.ent.getD v 0) (back es s v) ∧ linked e (back es s v) v ∧ e.f ≠ e.t := by
  have h0 : 0 < j := by
    rcases Nat.eq_zero_or_pos j with h1 | h1
    · subst h1
      rw [h.hd] at hj
      injection hj with hj
      exact absurd hj.symm hv
    · exact h1
  obtain ⟨e, i, u, q1, q2, q3, q4, q5⟩ := h.en j v hj h0
  have hne := (hE.at_ _ e q1).2.2.1
  have hb : Go.Proofs.YthhmhigddmimjaaGreat.back es s v = u := by
    have hed : es.getD (s.ent.getD v 0) dE = e := by rw [List.getD_eq_getElem?_getD, q1]; rfl
    rw [Go.Proofs.YthhmhigddmimjaaGreat.back, hed, oth]
    rcases q5 with ⟨a, b⟩ | ⟨a, b⟩
    · rw [if_neg (by omega)]; exact a
    · rw [if_pos b]; exact a
  rw [hb]
  exact ⟨e, i, q1, q2, q3, q4, q5, hne⟩
theorem pthF_fuel {es : List Ed} {fl : List Int} {N node : Nat} (hE : EsOk es N) {s : St} (h : Inv es fl N node s) (j : Nat) : ∀ (v F F' : Nat), s.ord[j]? = some v → j ≤ F → j ≤ F' → pthF es s node F v = pthF es s node F' v := by
  induction j using Nat.strongRecOn with
  | ind j ih =>
    intro v F F' hj hF hF'
    by_cases hv : v = node
    · cases F <;> cases F' <;> simp [pthF, hv]
    · obtain ⟨e, i, _, hi, hij, _⟩ := h.back hE hj hv
      cases F with
      | zero => omega
      | succ F =>
        cases F' with
        | zero => omega
        | succ F' => rw [pthF, pthF, if_neg hv, if_neg hv, ih i hij _ F F' hi (by omega) (by omega)]
def pth (es : List Ed) (s : St) (node v : Nat) : List Nat := pthF es s node s.ord.length v
theorem pth_end (es : List Ed) (s : St) (node : Nat) : pth es s node node = [] := by
  unfold pth
  cases s.ord.length <;> simp [pthF]
theorem pth_step {es : List Ed} {fl : List Int} {N node : Nat} (hE : EsOk es N) {s : St} (h : Inv es fl N node s) {v : Nat} (hm : v ∈ s.ord) (hv : v ≠ node) : pth es s node v = v :: pth es s node (back es s v) := by
  obtain ⟨j, hj⟩ := List.mem_iff_getElem?.1 hm
  have hjl := (List.getElem?_eq_some_iff.1 hj).1
  obtain ⟨e, i, _, hi, hij, _⟩ := h.back hE hj hv
  have e1 : s.ord.length = (s.ord.length - 1) + 1 := by omega
  have e2 : pth es s node v = v :: pthF es s node (s.ord.length - 1) (back es s v) := by
    unfold pth
    rw [e1, pthF, if_neg hv]
    simp
  rw [e2, pth, pthF_fuel hE h i _ _ s.ord.length hi (by omega) (by omega)]
/-- What lies on a way back. -/
theorem pth_all {es : List Ed} {fl : List Int} {N node : Nat} (hE : EsOk es N) {s : St} (h : Inv es fl N node s) (j : Nat) : ∀ v, s.ord[j]? = some v →
    (∀ u ∈ pth es s node v, u ≠ node ∧ ∃ i, i ≤ j ∧ s.ord[i]? = some u) ∧ (pth es s node v).Nodup := by
  induction j using Nat.strongRecOn with
  | ind j ih =>
    intro v hj
    by_cases hv : v = node
    · subst hv; rw [pth_end]; simp
    · obtain ⟨e, i, _, hi, hij, _⟩ := h.back hE hj hv
      obtain ⟨a, b⟩ := ih i hij _ hi
      rw [pth_step hE h (List.mem_of_getElem? hj) hv]
      refine ⟨?_, ?_⟩
      · intro u hu
        rcases List.mem_cons.1 hu with rfl | hu
        · exact ⟨hv, j, Nat.le_refl _, hj⟩
        · obtain ⟨q1, i', q2, q3⟩ := a u hu
          exact ⟨q1, i', by omega, q3⟩
      · rw [List.nodup_cons]
        refine ⟨?_, b⟩
        intro hm
        obtain ⟨_, i', q2, q3⟩ := a v hm
        have := (List.getElem?_inj (List.getElem?_eq_some_iff.1 hj).1 h.nd).1 (hj.trans q3.symm)
        omega
/-- The pipes of a way are different. -/
theorem ent_inj {es : List Ed} {fl : List Int} {N node : Nat} (hE : EsOk es N) {s : St} (h : Inv es fl N node s) {u v : Nat} (hu : u ∈ s.ord) (hv : v ∈ s.ord) (hun : u ≠ node) (hvn : v ≠ node) (he : s.ent.getD u 0 = s.ent.getD v 0) : u = v := by
  obtain ⟨j, hj⟩ := List.mem_iff_getElem?.1 hu
  obtain ⟨k, hk⟩ := List.mem_iff_getElem?.1 hv
  obtain ⟨e1, i1, a1, a2, a3, _, a5, a6⟩ := h.back hE hj hun
  obtain ⟨e2, i2, b1, b2, b3, _, b5, _⟩ := h.back hE hk hvn
  rw [he, b1] at a1
  injection a1 with a1
  subst a1
  by_cases huv : u = v
  · exact huv
  · exfalso
    have h1 : back es s u = v ∧ back es s v = u := by
      rcases a5 with ⟨x1, x2⟩ | ⟨x1, x2⟩ <;> rcases b5 with ⟨y1, y2⟩ | ⟨y1, y2⟩ <;> omega
    rw [h1.1] at a2
    rw [h1.2] at b2
    have p1 := (List.getElem?_inj (List.getElem?_eq_some_iff.1 a2).1 h.nd).1 (a2.trans hk.symm)
    have p2 := (List.getElem?_inj (List.getElem?_eq_some_iff.1 b2).1 h.nd).1 (b2.trans hj.symm)
    omega
end Go.Proofs.YthhmhigddmimjaaGreat
/-
  Plain functions: the amount and the new flows. No program here.
-/
namespace Go.Proofs.YthhmhigddmimjaaGreat

def capOf (es : List Ed) (fl : List Int) (s : St) (v : Nat) : Int := room es fl (s.ent.getD v 0) (back es s v)
def amtOf (es : List Ed) (fl : List Int) (s : St) (l : List Nat) (a : Int) : Int := l.foldl (fun a v => min a (capOf es fl s v)) a
def push1 (es : List Ed) (s : St) (a : Int) (fl : List Int) (v : Nat) : List Int :=
  fl.set (s.ent.getD v 0) (if (es.getD (s.ent.getD v 0) dE).t = v then fl.getD (s.ent.getD v 0) 0 + a else fl.getD (s.ent.getD v 0) 0 - a)
def pushes (es : List Ed) (s : St) (a : Int) (l : List Nat) (fl : List Int) : List Int := l.foldl (push1 es s a) fl
structure Keeps (es : List Ed) (fl : List Int) : Prop where
  len : fl.length = es.length
  at_ : ∀ (p : Nat) (e : Ed), es[p]? = some e → -e.lim ≤ fl.getD p 0 ∧ fl.getD p 0 ≤ e.lim
theorem push1_len (es : List Ed) (s : St) (a : Int) (fl : List Int) (v : Nat) : (push1 es s a fl v).length = fl.length := by simp [push1]
theorem push1_get {es : List Ed} {s : St} {a : Int} {fl : List Int} {v p : Nat} (hp : s.ent.getD v 0 ≠ p) : (push1 es s a fl v).getD p 0 = fl.getD p 0 := by
  rw [push1, List.getD_eq_getElem?_getD, List.getElem?_set, if_neg hp, ← List.getD_eq_getElem?_getD]
/-- What flows out of a node. -/
def outOf (es : List Ed) (fl : List Int) (v : Nat) : Int := ((List.range es.length).map fun p => (if (es.getD p dE).f = v then fl.getD p 0 else 0) - (if (es.getD p dE).t = v then fl.getD p 0 else 0)).sum
theorem sum_map_set {n p : Nat} (g h : Nat → Int) (hp : p < n) (he : ∀ q, q ≠ p → h q = g q) : ((List.range n).map h).sum = ((List.range n).map g).sum + (h p - g p) := by
  induction n with
  | zero => omega
  | succ n ih =>
    rw [List.range_succ, List.map_append, List.map_append, List.sum_append, List.sum_append]
    simp only [List.map_cons, List.map_nil, List.sum_cons, List.sum_nil]
    by_cases e : p = n
    · subst e
      have : (List.range p).map h = (List.range p).map g := List.map_congr_left fun q hq => he q (by have := List.mem_range.1 hq; omega)
      rw [this]; omega
    · rw [ih (by omega), he n (fun x => e x.symm)]; omega
end Go.Proofs.YthhmhigddmimjaaGreat
/-
  Plain functions: one step of a way. No program here.
-/
namespace Go.Proofs.YthhmhigddmimjaaGreat

theorem pushes_cons (es : List Ed) (s : St) (a : Int) (v : Nat) (l : List Nat) (fl : List Int) : pushes es s a (v :: l) fl = pushes es s a l (push1 es s a fl v) := rfl
/-- A node of the search that is not its beginning: its pipe, and the node before it. -/
theorem Inv.at {es : List Ed} {fl : List Int} {N node : Nat} (hE : EsOk es N) {s : St} (h : Inv es fl N node s) {v : Nat} (hv : v ∈ s.ord) (hvn : v ≠ node) :
    ∃ e, es[s.ent.getD v 0]? = some e ∧ touch e v = true ∧ oth e v = Go.Proofs.YthhmhigddmimjaaGreat.back es s v ∧ Go.Proofs.YthhmhigddmimjaaGreat.back es s v ∈ s.ord ∧ 0 < capOf es fl s v ∧ linked e (Go.Proofs.YthhmhigddmimjaaGreat.back es s v) v ∧ e.f ≠ e.t := by
  obtain ⟨j, hj⟩ := List.mem_iff_getElem?.1 hv
  obtain ⟨e, i, q1, q2, q3, q4, q5, q6⟩ := h.back hE hj hvn
  have hed : es.getD (s.ent.getD v 0) dE = e := by rw [List.getD_eq_getElem?_getD, q1]; rfl
  refine ⟨e, q1, ?_, by rw [Go.Proofs.YthhmhigddmimjaaGreat.back, hed], List.mem_of_getElem? q2, q4, q5, q6⟩
  rcases q5 with ⟨_, b⟩ | ⟨_, b⟩ <;> simp [touch, b]
end Go.Proofs.YthhmhigddmimjaaGreat
/-
  Plain functions: the target, one sending. No program here.
-/
namespace Go.Proofs.YthhmhigddmimjaaGreat

def ng (lf : List Int) (v : Nat) : Bool := decide (lf.getD v 0 < 0)
def tgI (lf : List Int) (l : List Nat) : Int := match l.find? (ng lf) with
  | some t => (t : Int)
  | none => -1
/-- The first target of a search. -/
def tgt (es : List Ed) (fl lf : List Int) (N node : Nat) : Option Nat := (srch es fl N node).ord.find? (ng lf)
def sndA (es : List Ed) (fl lf : List Int) (N node t : Nat) : Int := amtOf es fl (srch es fl N node) (pth es (srch es fl N node) node t) (min (lf.getD node 0) (-(lf.getD t 0)))
def sndF (es : List Ed) (fl lf : List Int) (N node t : Nat) : List Int := pushes es (srch es fl N node) (sndA es fl lf N node t) (pth es (srch es fl N node) node t) fl
def sndL (es : List Ed) (fl lf : List Int) (N node t : Nat) : List Int := (lf.set node (lf.getD node 0 - sndA es fl lf N node t)).set t (lf.getD t 0 + sndA es fl lf N node t)
end Go.Proofs.YthhmhigddmimjaaGreat
/-
  Plain functions: what is reached by steps; the full flow between two nodes. No program here.
-/
namespace Go.Proofs.YthhmhigddmimjaaGreat

inductive Reach {α : Type} (go : α → Prop) (nx : α → α) : α → α → Prop
  | refl (a : α) : Reach go nx a a
  | step {a b : α} (h : go a) (r : Reach go nx (nx a) b) : Reach go nx a b
theorem Reach.line {α : Type} {go : α → Prop} {nx : α → α} {c a b : α} (r : Reach go nx c a) (q : Reach go nx c b) : Reach go nx a b ∨ Reach go nx b a := by
  induction r with
  | refl _ => exact .inl q
  | step h r ih =>
    cases q with
    | refl _ => exact .inr (.step h r)
    | step _ q => exact ih q
theorem Reach.end_ {α : Type} {go : α → Prop} {nx : α → α} {a b : α} (r : Reach go nx a b) (h : ¬ go a) : a = b := by
  cases r with
  | refl _ => rfl
  | step h' _ => exact absurd h' h
theorem Reach.one {α : Type} {go : α → Prop} {nx : α → α} {c a b : α} (r : Reach go nx c a) (q : Reach go nx c b) (ha : ¬ go a) (hb : ¬ go b) : a = b := by
  rcases r.line q with h | h
  · exact h.end_ ha
  · exact (h.end_ hb).symm
noncomputable def fin {α : Type} [Nonempty α] (go : α → Prop) (nx : α → α) (c : α) : α := Classical.epsilon fun a => Reach go nx c a ∧ ¬ go a
theorem outOf_zero (es : List Ed) (v : Nat) : outOf es (List.replicate es.length 0) v = 0 := by
  unfold outOf
  have : ((List.range es.length).map fun p => (if (es.getD p dE).f = v then (List.replicate es.length (0 : Int)).getD p 0 else 0) - (if (es.getD p dE).t = v then (List.replicate es.length (0 : Int)).getD p 0 else 0)) = (List.range es.length).map fun _ => (0 : Int) := by
    refine List.map_congr_left fun p hp => ?_
    have : (List.replicate es.length (0 : Int)).getD p 0 = 0 := by rw [List.getD_eq_getElem?_getD, List.getElem?_replicate]; split <;> rfl
    rw [this]; simp
  rw [this]
  generalize es.length = m
  induction m with
  | zero => rfl
  | succ m ih => rw [List.range_succ, List.map_append, List.sum_append, ih]; rfl
def ffA (es : List Ed) (N node to : Nat) (fl : List Int) : Int := amtOf es fl (srch es fl N node) (pth es (srch es fl N node) node to) 1000000000000000000
def ffS (es : List Ed) (N node to : Nat) (fl : List Int) : List Int := pushes es (srch es fl N node) (ffA es N node to fl) (pth es (srch es fl N node) node to) fl
def ffGo (es : List Ed) (N node to : Nat) (fl : List Int) : Prop := to ∈ (srch es fl N node).ord
noncomputable def mfl (es : List Ed) (N node to : Nat) : List Int := fin (ffGo es N node to) (ffS es N node to) (List.replicate es.length 0)
/-- The remaining supplies of the reference's full flow. -/
def lfOf (es : List Ed) (N node to : Nat) (fl : List Int) : List Int := ((List.replicate N (0 : Int)).set node (1200000 - outOf es fl node)).set to (-(1200000 - outOf es fl node))
end Go.Proofs.YthhmhigddmimjaaGreat
/-
  Plain functions: routing. No program here.
-/
namespace Go.Proofs.YthhmhigddmimjaaGreat

def rtAt (es : List Ed) (N : Nat) (fl lf : List Int) (i : Nat) : Bool := decide (0 < lf.getD i 0) && (tgt es fl lf N i).isSome
def rtF (es : List Ed) (N : Nat) (p : List Int × List Int) : Option Nat := (List.range N).find? (rtAt es N p.1 p.2)
def rtGo (es : List Ed) (N : Nat) (p : List Int × List Int) : Prop := (rtF es N p).isSome = true
def rtOne (es : List Ed) (N : Nat) (fl lf : List Int) (i : Nat) : List Int × List Int := match tgt es fl lf N i with
  | some t => (sndF es fl lf N i t, sndL es fl lf N i t)
  | none => (fl, lf)
def rtN (es : List Ed) (N : Nat) (p : List Int × List Int) : List Int × List Int := match rtF es N p with
  | some i => rtOne es N p.1 p.2 i
  | none => p
noncomputable def rt (es : List Ed) (N : Nat) (sup : List Int) : List Int × List Int := fin (rtGo es N) (rtN es N) (List.replicate es.length 0, sup)
/-- What is not great. -/
structure RtOk (es : List Ed) (N : Nat) (p : List Int × List Int) : Prop where
  keeps : Keeps es p.1
  len : p.2.length = N
  bnd : ∀ (k : Nat) (z : Int), p.2[k]? = some z → -1000000000 ≤ z ∧ z ≤ 1000000000
theorem getD_set_self {l : List Int} {k : Nat} {z : Int} (h : k < l.length) : (l.set k z).getD k 0 = z := by
  rw [List.getD_eq_getElem?_getD, List.getElem?_set_self h]; rfl
theorem getD_set_ne {l : List Int} {k j : Nat} {z : Int} (h : k ≠ j) : (l.set k z).getD j 0 = l.getD j 0 := by
  rw [List.getD_eq_getElem?_getD, List.getElem?_set_ne h, ← List.getD_eq_getElem?_getD]
/-- The sum of what is positive. -/
def posS (lf : List Int) : Nat := (lf.map Int.toNat).sum
end Go.Proofs.YthhmhigddmimjaaGreat
/-
  Plain functions: the plain search is the search at no flow; components. No program here.
-/
namespace Go.Proofs.YthhmhigddmimjaaGreat

def zf (es : List Ed) : List Int := List.replicate es.length 0
theorem zf_get (es : List Ed) (p : Nat) : (zf es).getD p 0 = 0 := by
  rw [zf, List.getD_eq_getElem?_getD, List.getElem?_replicate]; split <;> rfl
theorem goes_zero {es : List Ed} {N : Nat} (hE : EsOk es N) {v p : Nat} {s : St} {e : Ed} (he : es[p]? = some e) : goes es (zf es) v s p = !(s.seen.getD (oth e v) true) := by
  have hed : es.getD p dE = e := by rw [List.getD_eq_getElem?_getD, he]; rfl
  have hl := (hE.at_ p e he).2.2.2
  have hr : 0 < room es (zf es) p v := by
    rw [room, zf_get, hed]
    split <;> omega
  rw [goes, hed, decide_eq_true hr, Bool.and_true]
/-- The entries as lists of numbers: -1 where there is none. -/
def entL (N node : Nat) (s : St) : List Int := (List.range N).map fun v => if v ∈ s.ord ∧ v ≠ node then ((s.ent.getD v 0 : Nat) : Int) else -1
theorem entL_len (N node : Nat) (s : St) : (entL N node s).length = N := by simp [entL]
theorem entL_zero (N node : Nat) : entL N node (st0 N node) = List.replicate N (-1) := by
  apply List.ext_getElem?
  intro k
  simp only [entL, List.getElem?_map, st0, List.mem_singleton, ne_eq, List.getElem?_replicate]
  by_cases hk : k < N
  · rw [List.getElem?_range hk]
    simp [hk]
  · rw [List.getElem?_eq_none (by simp; omega)]
    simp [hk]
theorem entL_enter {N node : Nat} {s : St} {o p : Nat} (hel : s.ent.length = N) (hon : o ≠ node) : entL N node ⟨s.ent.set o p, s.seen.set o true, s.ord ++ [o]⟩ = (entL N node s).set o (p : Int) := by
  apply List.ext_getElem?
  intro k
  by_cases hk : k < N
  · by_cases e : o = k
    · subst e
      rw [List.getElem?_set_self (by rw [entL_len]; exact hk), entL, List.getElem?_map, List.getElem?_range hk]
      simp only [Option.map_some, List.mem_append, List.mem_singleton, or_true, ne_eq, hon, not_false_eq_true, and_self, if_true]
      rw [List.getD_eq_getElem?_getD, List.getElem?_set_self (by rw [hel]; exact hk)]; rfl
    · rw [List.getElem?_set_ne e, entL, entL, List.getElem?_map, List.getElem?_map, List.getElem?_range hk]
      have e1 : (s.ent.set o p).getD k 0 = s.ent.getD k 0 := by rw [List.getD_eq_getElem?_getD, List.getElem?_set_ne e, ← List.getD_eq_getElem?_getD]
      have e2 : k ∈ s.ord ++ [o] ↔ k ∈ s.ord := by simp; intro h; exact absurd h.symm e
      simp only [Option.map_some, e1, e2]
  · rw [List.getElem?_eq_none (by rw [entL_len]; omega), List.getElem?_eq_none (by simp [entL_len]; omega)]
/-- The orders of the plain search. -/
def ordZ (es : List Ed) (N i : Nat) : List Nat := (srch es (zf es) N i).ord
def paint (i : Nat) (c : List Int) (l : List Nat) : List Int := l.foldl (fun c v => c.set v (i : Int)) c
def cstep (es : List Ed) (N : Nat) (c : List Int) (i : Nat) : List Int := if c.getD i 0 < 0 then paint i c (ordZ es N i) else c
def compTo (es : List Ed) (N k : Nat) : List Int := (List.range k).foldl (cstep es N) (List.replicate N (-1))
def comps (es : List Ed) (N : Nat) : List Int := compTo es N N
theorem compTo_succ (es : List Ed) (N k : Nat) : compTo es N (k + 1) = cstep es N (compTo es N k) k := by
  rw [compTo, List.range_succ, List.foldl_append]; rfl
theorem paint_len (i : Nat) (c : List Int) (l : List Nat) : (paint i c l).length = c.length := by
  induction l generalizing c with
  | nil => rfl
  | cons v l ih => exact (ih (c.set v i)).trans (by simp)
theorem paint_snoc {i : Nat} {c : List Int} {l : List Nat} {k v : Nat} (h : l[k]? = some v) : paint i c (l.take (k + 1)) = (paint i c (l.take k)).set v i := by
  rw [List.take_add_one, h, Option.toList_some, paint, List.foldl_append]; rfl
theorem compTo_len (es : List Ed) (N k : Nat) : (compTo es N k).length = N := by
  induction k with
  | zero => simp [compTo]
  | succ k ih =>
    rw [compTo_succ, cstep]
    split
    · rw [paint_len]; exact ih
    · exact ih
def InC (N : Nat) (z : Int) : Prop := -1 ≤ z ∧ z < N
theorem paint_in {N i : Nat} (hi : i < N) (l : List Nat) : ∀ c : List Int, (∀ z ∈ c, InC N z) → ∀ z ∈ paint i c l, InC N z := by
  induction l with
  | nil => intro c h; exact h
  | cons v l ih =>
    intro c h
    refine ih (c.set v i) (fun z hz => ?_)
    rcases List.mem_or_eq_of_mem_set hz with h1 | h1
    · exact h z h1
    · rw [h1]; unfold InC; omega
theorem paint_get {i : Nat} {l : List Nat} : ∀ {c : List Int} {v : Nat}, v < c.length → (v ∈ l → (paint i c l).getD v 0 = i) ∧ (v ∉ l → (paint i c l).getD v 0 = c.getD v 0) := by
  induction l with
  | nil => intro c v _; exact ⟨fun h => (by cases h), fun _ => rfl⟩
  | cons u l ih =>
    intro c v hv
    have h1 := ih (c := c.set u (i : Int)) (v := v) (by simpa using hv)
    refine ⟨fun h => ?_, fun h => ?_⟩
    · by_cases hl : v ∈ l
      · exact h1.1 hl
      · have e : v = u := by rcases List.mem_cons.1 h with h | h
                             · exact h
                             · exact absurd h hl
        have h2 := h1.2 hl
        refine h2.trans ?_
        rw [e, getD_set_self (by rw [← e]; exact hv)]
    · have hu : u ≠ v := fun e => h (by rw [e]; simp)
      exact (h1.2 (fun hl => h (by simp [hl]))).trans (getD_set_ne hu)
/-- All components are nodes. -/
theorem comps_in {es : List Ed} {N : Nat} (hE : EsOk es N) : ∀ v, v < N → 0 ≤ (comps es N).getD v 0 ∧ (comps es N).getD v 0 < N := by
  have key : ∀ k, k ≤ N → (∀ z ∈ compTo es N k, InC N z) ∧ ∀ v, v < k → 0 ≤ (compTo es N k).getD v 0 := by
    intro k
    induction k with
    | zero =>
      intro _
      refine ⟨fun z hz => ?_, fun v hv => absurd hv (by omega)⟩
      simp only [compTo, List.range_zero, List.foldl_nil] at hz
      rw [(List.mem_replicate.1 hz).2]; unfold InC; omega
    | succ k ih =>
      intro hk
      obtain ⟨h1, h2⟩ := ih (by omega)
      rw [compTo_succ, cstep]
      by_cases hc : (compTo es N k).getD k 0 < 0
      · rw [if_pos hc]
        refine ⟨paint_in (by omega) _ _ h1, fun v hv => ?_⟩
        have hg := paint_get (i := k) (l := ordZ es N k) (c := compTo es N k) (v := v) (by rw [compTo_len]; omega)
        by_cases hm : v ∈ ordZ es N k
        · rw [hg.1 hm]; omega
        · rw [hg.2 hm]
          have hI := inv_srch (fl := zf es) hE (show k < N by omega)
          have : v ≠ k := fun e => hm (by rw [e]; exact List.mem_of_getElem? hI.hd)
          exact h2 v (by omega)
      · rw [if_neg hc]
        refine ⟨h1, fun v hv => ?_⟩
        by_cases e : v = k
        · rw [e]; omega
        · exact h2 v (by omega)
  intro v hv
  obtain ⟨h1, h2⟩ := key N (Nat.le_refl _)
  refine ⟨h2 v hv, ?_⟩
  have := h1 ((compTo es N N).getD v 0) (by
    rw [List.getD_eq_getElem?_getD, List.getElem?_eq_getElem (by rw [compTo_len]; exact hv)]
    exact List.getElem_mem _)
  exact this.2
end Go.Proofs.YthhmhigddmimjaaGreat
