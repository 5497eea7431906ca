/-
  Plain functions: the amount and the new flows. No program here.
-/
import Derived.Test.YtdoidehlklkfaaaFlowM2
namespace Go.Proofs.Ytdoidehlklkfaaa

def capOf (es : List Ed) (fl : List Int) (s : St) (v : Nat) : Int := room es fl (s.ent.getD v 0) (back es s v)
def amtOf (es : List Ed) (fl : List Int) (s : St) (l : List Nat) (a : Int) : Int := l.foldl (fun a v => min a (capOf es fl s v)) a
def push1 (es : List Ed) (s : St) (a : Int) (fl : List Int) (v : Nat) : List Int :=
  fl.set (s.ent.getD v 0) (if (es.getD (s.ent.getD v 0) dE).t = v then fl.getD (s.ent.getD v 0) 0 + a else fl.getD (s.ent.getD v 0) 0 - a)
def pushes (es : List Ed) (s : St) (a : Int) (l : List Nat) (fl : List Int) : List Int := l.foldl (push1 es s a) fl
structure Keeps (es : List Ed) (fl : List Int) : Prop where
  len : fl.length = es.length
  at_ : ∀ (p : Nat) (e : Ed), es[p]? = some e → -e.lim ≤ fl.getD p 0 ∧ fl.getD p 0 ≤ e.lim
theorem amtOf_le {es : List Ed} {fl : List Int} {s : St} (l : List Nat) (a : Int) : amtOf es fl s l a ≤ a ∧ ∀ v ∈ l, amtOf es fl s l a ≤ capOf es fl s v := by
  induction l generalizing a with
  | nil => simp [amtOf]
  | cons u l ih =>
    obtain ⟨h1, h2⟩ := ih (min a (capOf es fl s u))
    have e : amtOf es fl s (u :: l) a = amtOf es fl s l (min a (capOf es fl s u)) := rfl
    rw [e]
    refine ⟨by omega, fun v hv => ?_⟩
    rcases List.mem_cons.1 hv with rfl | hv
    · omega
    · exact h2 v hv
theorem amtOf_pos {es : List Ed} {fl : List Int} {s : St} (l : List Nat) {a : Int} (ha : 0 < a) (h : ∀ v ∈ l, 0 < capOf es fl s v) : 0 < amtOf es fl s l a := by
  induction l generalizing a with
  | nil => exact ha
  | cons u l ih =>
    have h1 := h u (by simp)
    exact ih (a := min a (capOf es fl s u)) (by omega) (fun v hv => h v (by simp [hv]))
theorem amtOf_min {es : List Ed} {fl : List Int} {s : St} (l : List Nat) (a b : Int) (hb : amtOf es fl s l a ≤ b) (hab : b ≤ a) : amtOf es fl s l b = amtOf es fl s l a := by
  induction l generalizing a b with
  | nil => simp only [amtOf, List.foldl_nil] at *; omega
  | cons u l ih =>
    have e1 : amtOf es fl s (u :: l) a = amtOf es fl s l (min a (capOf es fl s u)) := rfl
    have e2 : amtOf es fl s (u :: l) b = amtOf es fl s l (min b (capOf es fl s u)) := rfl
    rw [e1] at hb ⊢
    rw [e2]
    have := (amtOf_le (es := es) (fl := fl) (s := s) l (min a (capOf es fl s u))).1
    exact ih _ _ (by omega) (by omega)
theorem push1_len (es : List Ed) (s : St) (a : Int) (fl : List Int) (v : Nat) : (push1 es s a fl v).length = fl.length := by simp [push1]
theorem push1_get {es : List Ed} {s : St} {a : Int} {fl : List Int} {v p : Nat} (hp : s.ent.getD v 0 ≠ p) : (push1 es s a fl v).getD p 0 = fl.getD p 0 := by
  rw [push1, List.getD_eq_getElem?_getD, List.getElem?_set, if_neg hp, ← List.getD_eq_getElem?_getD]
theorem room_push {es : List Ed} {s : St} {a : Int} {fl : List Int} {v p u : Nat} (hp : s.ent.getD v 0 ≠ p) : room es (push1 es s a fl v) p u = room es fl p u := by
  unfold room; rw [push1_get hp]
/-- The flows of a way keep the limits. -/
theorem pushes_keeps {es : List Ed} {N node : Nat} (hE : EsOk es N) {fl0 : List Int} {s : St} (h : Inv es fl0 N node s) {a : Int} (ha : 0 ≤ a) (l : List Nat) (hl : ∀ v ∈ l, v ∈ s.ord ∧ v ≠ node) (hn : l.Nodup) {fl : List Int} (hk : Keeps es fl) (hc : ∀ v ∈ l, a ≤ capOf es fl s v) : Keeps es (pushes es s a l fl) := by
  induction l generalizing fl with
  | nil => exact hk
  | cons v l ih =>
    obtain ⟨hv, hvn⟩ := hl v (by simp)
    obtain ⟨j, hj⟩ := List.mem_iff_getElem?.1 hv
    obtain ⟨e, i, q1, q2, q3, q4, q5, q6⟩ := h.back hE hj hvn
    have hcv := hc v (by simp)
    rw [List.nodup_cons] at hn
    have hed : es.getD (s.ent.getD v 0) dE = e := by rw [List.getD_eq_getElem?_getD, q1]; rfl
    have hpl : s.ent.getD v 0 < fl.length := by rw [hk.len]; exact (List.getElem?_eq_some_iff.1 q1).1
    refine ih (fun u hu => hl u (by simp [hu])) hn.2 (fl := push1 es s a fl v) ?_ ?_
    · refine ⟨by rw [push1_len, hk.len], fun p e' hp => ?_⟩
      by_cases hpe : s.ent.getD v 0 = p
      · subst hpe
        rw [q1] at hp
        injection hp with hp
        subst hp
        have hb := hk.at_ _ e q1
        have hval : (push1 es s a fl v).getD (s.ent.getD v 0) 0 = if e.t = v then fl.getD (s.ent.getD v 0) 0 + a else fl.getD (s.ent.getD v 0) 0 - a := by
          rw [push1, hed, List.getD_eq_getElem?_getD, List.getElem?_set, if_pos rfl, if_pos hpl]; rfl
        rw [hval]
        rw [capOf, room, hed] at hcv
        rcases q5 with ⟨x1, x2⟩ | ⟨x1, x2⟩
        · rw [if_pos x2]; rw [if_pos x1] at hcv; omega
        · rw [if_neg (by omega)]; rw [if_neg (by omega)] at hcv; omega
      · rw [push1_get hpe]; exact hk.at_ p e' hp
    · intro u hu
      obtain ⟨hu1, hu2⟩ := hl u (by simp [hu])
      have hne : s.ent.getD v 0 ≠ s.ent.getD u 0 := fun e => hn.1 (by rw [ent_inj hE h hv hu1 hvn hu2 e]; exact hu)
      rw [capOf, room_push hne]
      exact hc u (by simp [hu])
/-- What flows out of a node. -/
def outOf (es : List Ed) (fl : List Int) (v : Nat) : Int := ((List.range es.length).map fun p => (if (es.getD p dE).f = v then fl.getD p 0 else 0) - (if (es.getD p dE).t = v then fl.getD p 0 else 0)).sum
theorem sum_map_set {n p : Nat} (g h : Nat → Int) (hp : p < n) (he : ∀ q, q ≠ p → h q = g q) : ((List.range n).map h).sum = ((List.range n).map g).sum + (h p - g p) := by
  induction n with
  | zero => omega
  | succ n ih =>
    rw [List.range_succ, List.map_append, List.map_append, List.sum_append, List.sum_append]
    simp only [List.map_cons, List.map_nil, List.sum_cons, List.sum_nil]
    by_cases e : p = n
    · subst e
      have : (List.range p).map h = (List.range p).map g := List.map_congr_left fun q hq => he q (by have := List.mem_range.1 hq; omega)
      rw [this]; omega
    · rw [ih (by omega), he n (fun x => e x.symm)]; omega
theorem outOf_push {es : List Ed} {N node : Nat} (hE : EsOk es N) {fl0 : List Int} {s : St} (h : Inv es fl0 N node s) {a : Int} {fl : List Int} (hlen : fl.length = es.length) {v : Nat} (hv : v ∈ s.ord) (hvn : v ≠ node) :
    outOf es (push1 es s a fl v) node = outOf es fl node + if back es s v = node then a else 0 := by
  obtain ⟨j, hj⟩ := List.mem_iff_getElem?.1 hv
  obtain ⟨e, i, q1, q2, q3, q4, q5, q6⟩ := h.back hE hj hvn
  have hed : es.getD (s.ent.getD v 0) dE = e := by rw [List.getD_eq_getElem?_getD, q1]; rfl
  have hpl : s.ent.getD v 0 < es.length := (List.getElem?_eq_some_iff.1 q1).1
  have hval : (push1 es s a fl v).getD (s.ent.getD v 0) 0 = if e.t = v then fl.getD (s.ent.getD v 0) 0 + a else fl.getD (s.ent.getD v 0) 0 - a := by
    rw [push1, hed, List.getD_eq_getElem?_getD, List.getElem?_set, if_pos rfl, if_pos (by omega)]; rfl
  unfold outOf
  rw [sum_map_set (p := s.ent.getD v 0) (fun p => (if (es.getD p dE).f = node then fl.getD p 0 else 0) - (if (es.getD p dE).t = node then fl.getD p 0 else 0)) _ hpl (fun q hq => by simp only [push1_get (fun x => hq x.symm)])]
  rw [hval, hed]
  congr 1
  rcases q5 with ⟨x1, x2⟩ | ⟨x1, x2⟩
  · rw [if_pos x2, x1]
    have : e.t ≠ node := by rw [x2]; exact hvn
    simp only [this, if_false]
    by_cases hb : back es s v = node
    · simp only [hb, if_true]; omega
    · simp only [hb, if_false]; omega
  · have h1 : e.t ≠ v := by omega
    have h2 : e.f ≠ node := by rw [x2]; exact hvn
    rw [if_neg h1, x1]
    simp only [h2, if_false]
    by_cases hb : back es s v = node
    · simp only [hb, if_true]; omega
    · simp only [hb, if_false]; omega
theorem outOf_le {es : List Ed} {N : Nat} (hE : EsOk es N) {fl : List Int} (hk : Keeps es fl) (v : Nat) : outOf es fl v ≤ 30000 * es.length := by
  have key : ∀ n, n ≤ es.length → ((List.range n).map fun p => (if (es.getD p dE).f = v then fl.getD p 0 else 0) - (if (es.getD p dE).t = v then fl.getD p 0 else 0)).sum ≤ 30000 * (n : Int) := by
    intro n
    induction n with
    | zero => simp
    | succ n ih =>
      intro hn
      have h1 := ih (by omega)
      rw [List.range_succ, List.map_append, List.sum_append]
      simp only [List.map_cons, List.map_nil, List.sum_cons, List.sum_nil]
      obtain ⟨e, he⟩ : ∃ e, es[n]? = some e := ⟨_, List.getElem?_eq_getElem (by omega)⟩
      have hed : es.getD n dE = e := by rw [List.getD_eq_getElem?_getD, he]; rfl
      have hb := hk.at_ n e he
      have hl := hE.at_ n e he
      rw [hed]
      have hx : (if e.f = v then fl.getD n 0 else 0) - (if e.t = v then fl.getD n 0 else 0) ≤ 30000 := by
        by_cases h1 : e.f = v <;> by_cases h2 : e.t = v <;> simp only [h1, h2, if_true, if_false] <;> omega
      omega
  exact key es.length (Nat.le_refl _)
end Go.Proofs.Ytdoidehlklkfaaa
