import Derived.Test.YthhmhigddmimjaaGreatCap
import Derived.Test.YthhmhigddmimjaaGreatCutM
/-
  A set of nodes and its complement part the same pipes.
-/
namespace Go.Proofs.YthhmhigddmimjaaGreat

/-- The nodes below k that are not in s. -/
def cplt (s : List Int) (k : Nat) : List Int := ((List.range k).map (fun (i : Nat) => (i : Int))).filter (fun i => !decide (i ∈ s))
end Go.Proofs.YthhmhigddmimjaaGreat
/-
  Plain laws of cuts: what flows out of a set that no room leads out of; the full flow; routing. No program here.
-/
namespace Go.Proofs.YthhmhigddmimjaaGreat

def dP : GPipe := ⟨0, 0, 0, 0, 0⟩
def sm (n : Nat) (g : Nat → Int) : Int := ((List.range n).map g).sum
theorem sm_succ (n : Nat) (g : Nat → Int) : sm (n + 1) g = sm n g + g n := by
  unfold sm
  rw [List.range_succ, List.map_append, List.sum_append]
  simp
theorem sm_congr {n : Nat} {g h : Nat → Int} (e : ∀ i, i < n → g i = h i) : sm n g = sm n h := by
  unfold sm
  rw [List.map_congr_left fun i hi => e i (List.mem_range.1 hi)]
theorem sm_add (n : Nat) (g h : Nat → Int) : sm n (fun i => g i + h i) = sm n g + sm n h := by
  induction n with
  | zero => rfl
  | succ n ih => rw [sm_succ, sm_succ, sm_succ, ih]; omega
theorem sm_sub (n : Nat) (g h : Nat → Int) : sm n (fun i => g i - h i) = sm n g - sm n h := by
  induction n with
  | zero => rfl
  | succ n ih => rw [sm_succ, sm_succ, sm_succ, ih]; omega
theorem sm_nil (n : Nat) : sm n (fun _ => 0) = 0 := by
  induction n with
  | zero => rfl
  | succ n ih => rw [sm_succ, ih]; rfl
theorem sm_swap (n m : Nat) (g : Nat → Nat → Int) : sm n (fun i => sm m (fun j => g i j)) = sm m (fun j => sm n (fun i => g i j)) := by
  induction n with
  | zero => exact (sm_nil m).symm
  | succ n ih =>
    rw [sm_succ, ih, ← sm_add]
    exact sm_congr fun j _ => (sm_succ n (fun i => g i j)).symm
theorem sm_pick {n f : Nat} (hf : f < n) (g : Nat → Int) : sm n (fun v => if f = v then g v else 0) = g f := by
  induction n with
  | zero => omega
  | succ n ih =>
    rw [sm_succ]
    by_cases e : f = n
    · subst e
      have : sm f (fun v => if f = v then g v else 0) = 0 := by
        exact (sm_congr (fun i hi => by rw [if_neg (show ¬ f = i by omega)])).trans (sm_nil f)
      rw [this, if_pos rfl]; omega
    · rw [ih (by omega), if_neg e]; omega
theorem sm_list {α : Type} (d : α) (l : List α) (g : α → Int) : (l.map g).sum = sm l.length (fun i => g (l.getD i d)) := by
  induction l with
  | nil => rfl
  | cons a l ih =>
    have e : ∀ (n : Nat) (h : Nat → Int), sm (n + 1) h = h 0 + sm n (fun i => h (i + 1)) := by
      intro n h
      induction n with
      | zero => simp [sm]
      | succ n ihn => rw [sm_succ, ihn, sm_succ]; omega
    rw [List.map_cons, List.sum_cons, ih, List.length_cons, e]
    rfl
def bsum (b : Nat → Bool) (N : Nat) (g : Nat → Int) : Int := sm N (fun v => if b v = true then g v else 0)
def cutE (b : Nat → Bool) (e : Ed) : Int := if (b e.f != b e.t) = true then e.lim else 0
def cutV (es : List Ed) (b : Nat → Bool) : Int := sm es.length (fun p => cutE b (es.getD p dE))
theorem ed_at {es : List Ed} {p : Nat} (hp : p < es.length) : es[p]? = some (es.getD p dE) := by
  rw [List.getD_eq_getElem?_getD, List.getElem?_eq_getElem hp]; rfl
/-- What flows out of a set. -/
theorem out_set {es : List Ed} {N : Nat} (hE : EsOk es N) (fl : List Int) (b : Nat → Bool) :
    bsum b N (outOf es fl) = sm es.length (fun p => (if b (es.getD p dE).f = true then fl.getD p 0 else 0) - (if b (es.getD p dE).t = true then fl.getD p 0 else 0)) := by
  have e1 : bsum b N (outOf es fl) = sm N (fun v => sm es.length (fun p => (if (es.getD p dE).f = v then (if b v = true then fl.getD p 0 else 0) else 0) - (if (es.getD p dE).t = v then (if b v = true then fl.getD p 0 else 0) else 0))) := by
    unfold bsum
    refine sm_congr fun v _ => ?_
    by_cases hb : b v = true
    · rw [if_pos hb]
      refine sm_congr fun p _ => ?_
      simp [hb]
    · rw [if_neg hb, ← sm_nil es.length]
      refine sm_congr fun p _ => ?_
      simp [hb]
  rw [e1, sm_swap]
  refine sm_congr fun p hp => ?_
  obtain ⟨h1, h2, _⟩ := hE.at_ p _ (ed_at hp)
  rw [sm_sub, sm_pick h1 (fun v => if b v = true then fl.getD p 0 else 0), sm_pick h2 (fun v => if b v = true then fl.getD p 0 else 0)]
theorem out_all {es : List Ed} {N : Nat} (hE : EsOk es N) (fl : List Int) : sm N (outOf es fl) = 0 := by
  have h := out_set hE fl (fun _ => true)
  unfold bsum at h
  simp only [if_true] at h
  rw [h, ← sm_nil es.length]
  exact sm_congr fun p _ => by simp
/-- A set that no room leads out of. -/
def Closed (es : List Ed) (fl : List Int) (b : Nat → Bool) : Prop := ∀ v p, b v = true → p ∈ atN es v → 0 < room es fl p v → b (oth (es.getD p dE) v) = true
/- The search finds all that can be reached. -/
theorem vis_get {es : List Ed} {fl : List Int} {v : Nat} {s : St} {p j u : Nat} (h : s.ord[j]? = some u) : (vis es fl v s p).ord[j]? = some u := by
  unfold vis
  split
  · rw [List.getElem?_append_left (List.getElem?_eq_some_iff.1 h).1]; exact h
  · exact h
theorem fold_get {es : List Ed} {fl : List Int} {v j u : Nat} (l : List Nat) {s : St} (h : s.ord[j]? = some u) : (l.foldl (vis es fl v) s).ord[j]? = some u := by
  induction l generalizing s with
  | nil => exact h
  | cons p l ih => exact ih (vis_get h)
theorem sst_get {es : List Ed} {fl : List Int} {N node j u k : Nat} (m : Nat) (h : (sst es fl N node k).ord[j]? = some u) : (sst es fl N node (k + m)).ord[j]? = some u := by
  induction m with
  | zero => exact h
  | succ m ih =>
    rw [← Nat.add_assoc, sst]
    split
    · exact fold_get _ ih
    · exact ih
theorem vis_has {es : List Ed} {fl : List Int} {N node : Nat} (hE : EsOk es N) {s : St} (h : Inv es fl N node s) {v p : Nat} (hp : p ∈ atN es v) (hr : 0 < room es fl p v) : oth (es.getD p dE) v ∈ (vis es fl v s p).ord := by
  unfold vis
  by_cases hg : goes es fl v s p = true
  · rw [if_pos hg]; simp
  · rw [if_neg hg]
    have hpl := (mem_atN.1 hp).1
    have hl := hE.at_ p _ (ed_at hpl)
    have ho : oth (es.getD p dE) v < N := by
      unfold oth; split
      · exact hl.2.1
      · exact hl.1
    have : s.seen.getD (oth (es.getD p dE) v) true = true := by
      cases hs : s.seen.getD (oth (es.getD p dE) v) true with
      | true => rfl
      | false => exact absurd (by rw [goes, hs, decide_eq_true hr]; rfl) hg
    exact (h.sn _ ho).1 this
theorem fold_has {es : List Ed} {fl : List Int} {N node : Nat} (hE : EsOk es N) {v : Nat} (l : List Nat) (hl : ∀ p ∈ l, p ∈ atN es v) {s : St} (h : Inv es fl N node s) (hv : v ∈ s.ord) {p : Nat} (hp : p ∈ l) (hr : 0 < room es fl p v) : oth (es.getD p dE) v ∈ (l.foldl (vis es fl v) s).ord := by
  induction l generalizing s with
  | nil => cases hp
  | cons q l ih =>
    obtain ⟨h1, h2⟩ := inv_vis hE h hv (hl q (by simp))
    rcases List.mem_cons.1 hp with e | e
    · subst e
      obtain ⟨j, hj⟩ := List.getElem?_of_mem (vis_has hE h (hl p (by simp)) hr)
      exact List.mem_of_getElem? (fold_get l hj)
    · exact ih (fun r hr => hl r (by simp [hr])) h1 h2 e
theorem srch_closed {es : List Ed} {fl : List Int} {N node : Nat} (hE : EsOk es N) (hn : node < N) {v p : Nat} (hv : v ∈ (srch es fl N node).ord) (hp : p ∈ atN es v) (hr : 0 < room es fl p v) : oth (es.getD p dE) v ∈ (srch es fl N node).ord := by
  obtain ⟨j, hj⟩ := List.getElem?_of_mem hv
  have hjl := (List.getElem?_eq_some_iff.1 hj).1
  have hlen := (inv_srch (fl := fl) hE hn).len
  have hjN : j < N := by omega
  have hlt : j < (sst es fl N node j).ord.length := by
    rcases Nat.lt_or_ge j (sst es fl N node j).ord.length with h | h
    · exact h
    · have := sst_stop h (N - j)
      rw [Nat.add_sub_cancel' (by omega)] at this
      unfold srch at hjl
      rw [this] at hjl
      omega
  have hg : (sst es fl N node j).ord[j]? = some v := by
    have h1 := List.getElem?_eq_getElem hlt
    have h2 := sst_get (N - j) h1
    rw [Nat.add_sub_cancel' (by omega)] at h2
    have h3 : (srch es fl N node).ord[j]? = some _ := h2
    rw [hj] at h3
    rw [h1, ← h3]
  have hI := inv_sst (fl := fl) hE hn j
  have h1 : oth (es.getD p dE) v ∈ (sst es fl N node (j + 1)).ord := by
    rw [sst, hg]
    exact fold_has hE _ (fun _ h => h) hI (List.mem_of_getElem? hg) hp hr
  obtain ⟨i, hi⟩ := List.getElem?_of_mem h1
  have h2 := sst_get (N - (j + 1)) hi
  rw [Nat.add_sub_cancel' (by omega)] at h2
  exact List.mem_of_getElem? h2
/- What a sending does tg each node. -/
theorem outOf_push_at {es : List Ed} {N node : Nat} (hE : EsOk es N) {fl0 : List Int} {s : St} (h : Inv es fl0 N node s) {a : Int} {fl : List Int} (hlen : fl.length = es.length) {v : Nat} (hv : v ∈ s.ord) (hvn : v ≠ node) (u : Nat) :
    outOf es (push1 es s a fl v) u = outOf es fl u + (if back es s v = u then a else 0) - (if v = u then a else 0) := by
  obtain ⟨j, hj⟩ := List.mem_iff_getElem?.1 hv
  obtain ⟨e, i, q1, q2, q3, q4, q5, q6⟩ := h.back hE hj hvn
  have hed : es.getD (s.ent.getD v 0) dE = e := by rw [List.getD_eq_getElem?_getD, q1]; rfl
  have hpl : s.ent.getD v 0 < es.length := (List.getElem?_eq_some_iff.1 q1).1
  have hval : (push1 es s a fl v).getD (s.ent.getD v 0) 0 = if e.t = v then fl.getD (s.ent.getD v 0) 0 + a else fl.getD (s.ent.getD v 0) 0 - a := by
    rw [push1, hed, List.getD_eq_getElem?_getD, List.getElem?_set, if_pos rfl, if_pos (by omega)]; rfl
  unfold outOf
  rw [sum_map_set (p := s.ent.getD v 0) (fun p => (if (es.getD p dE).f = u then fl.getD p 0 else 0) - (if (es.getD p dE).t = u then fl.getD p 0 else 0)) _ hpl (fun q hq => by simp only [push1_get (fun x => hq x.symm)])]
  rw [hval, hed, Int.add_sub_assoc]
  congr 1
  rcases q5 with ⟨x1, x2⟩ | ⟨x1, x2⟩
  · rw [if_pos x2, ← x1, ← x2]
    by_cases hf : e.f = u
    · have : e.t ≠ u := by omega
      simp only [hf, this, if_true, if_false]; omega
    · by_cases ht : e.t = u
      · simp only [hf, ht, if_true, if_false]; omega
      · simp only [hf, ht, if_false]; omega
  · have h1 : e.t ≠ v := by omega
    rw [if_neg h1, ← x1, ← x2]
    by_cases hf : e.f = u
    · have : e.t ≠ u := by omega
      simp only [hf, this, if_true, if_false]; omega
    · by_cases ht : e.t = u
      · simp only [hf, ht, if_true, if_false]; omega
      · simp only [hf, ht, if_false]; omega
theorem outOf_pushes_at {es : List Ed} {N node : Nat} (hE : EsOk es N) {fl0 : List Int} {s : St} (h : Inv es fl0 N node s) {a : Int} (j : Nat) : ∀ (v : Nat) (fl : List Int), s.ord[j]? = some v → v ≠ node → fl.length = es.length → ∀ u,
    outOf es (pushes es s a (pth es s node v) fl) u = outOf es fl u + (if node = u then a else 0) - (if v = u then a else 0) := by
  induction j using Nat.strongRecOn with
  | ind j ih =>
    intro v fl hj hv hl u
    obtain ⟨e, i, _, hi, hij, _⟩ := h.back hE hj hv
    have hm := List.mem_of_getElem? hj
    rw [pth_step hE h hm hv, pushes_cons]
    have h1 := outOf_push_at hE h (a := a) hl hm hv u
    by_cases hb : back es s v = node
    · rw [hb, pth_end]
      rw [hb] at h1
      exact h1
    · rw [ih i hij _ _ hi hb (by rw [push1_len]; exact hl), h1]
      omega
/- The full flow. -/
structure FfOk (es : List Ed) (N node tg : Nat) (fl : List Int) : Prop where
  keeps : Keeps es fl
  pos : 0 ≤ outOf es fl node
  zero : ∀ u, u ≠ node → u ≠ tg → outOf es fl u = 0
def inS (l : List Nat) (v : Nat) : Bool := decide (v ∈ l)
end Go.Proofs.YthhmhigddmimjaaGreat
/-
  Plain laws of routing: what is routed is balanced within all limits; what blocks has more supply than capacity. No program here.
-/
namespace Go.Proofs.YthhmhigddmimjaaGreat

structure RtInv (es : List Ed) (N : Nat) (sup : List Int) (p : List Int × List Int) : Prop where
  ok : RtOk es N p
  bal : ∀ u, u < N → outOf es p.1 u + p.2.getD u 0 = sup.getD u 0
/-- The supply of a set of nodes. -/
def supOf (sup s : List Int) : Int := (s.map fun v => sup.getD v.toNat 0).sum
def outL (n : GNet) (fl : List Int) : List Int := (List.range n.nodes.length).map (outOf (eds n.pipes) fl)
def limOk (n : GNet) (fl : List Int) : Bool := (List.range n.pipes.length).all fun i => decide (-(n.pipes.getD i dP).lim ≤ fl.getD i 0 ∧ fl.getD i 0 ≤ (n.pipes.getD i dP).lim)
end Go.Proofs.YthhmhigddmimjaaGreat
/-
  Plain functions: flow lists, transits, supplies of flows, pipes over their limits. No program here.
-/
namespace Go.Proofs.YthhmhigddmimjaaGreat

def flOk (n : GNet) (fl : List Int) : Bool := supOk n.pipes.length fl
def flCode (n : GNet) (fl : List Int) : Int := if netOk n then (if flOk n fl then 0 else 3) else 1
theorem flOk_all {n : GNet} {fl : List Int} (h : flOk n fl = true) : fl.length = n.pipes.length ∧ ∀ z ∈ fl, -30000 ≤ z ∧ z ≤ 30000 := supOk_all h
theorem flOk_get {n : GNet} {fl : List Int} (h : flOk n fl = true) (k : Nat) : -30000 ≤ fl.getD k 0 ∧ fl.getD k 0 ≤ 30000 := by
  rcases getD_mem_or (l := fl) k with e | e
  · rw [e]; omega
  · exact (flOk_all h).2 _ e
/-- What a pipe brings into a node. -/
def trTerm (p : GPipe) (x v : Int) : Int := (if p.dst = v then max 0 x else 0) + (if p.src = v then max 0 (-x) else 0)
def trTo (n : GNet) (fl : List Int) (v : Int) (k : Nat) : Int := sm k fun i => trTerm (n.pipes.getD i dP) (fl.getD i 0) v
def toCode (n : GNet) (fl : List Int) (v : Int) : Int := if flCode n fl = 0 then (if inN n v then 0 else 2) else flCode n fl
def toVal (n : GNet) (fl : List Int) (v : Int) : Int := if toCode n fl v = 0 then trTo n fl v n.pipes.length else 0
/- What flows out of the nodes, pipe by pipe. -/
def outK (n : GNet) (fl : List Int) (k v : Nat) : Int := sm k fun p => (if ((eds n.pipes).getD p dE).f = v then fl.getD p 0 else 0) - (if ((eds n.pipes).getD p dE).t = v then fl.getD p 0 else 0)
def outTo (n : GNet) (fl : List Int) (k : Nat) : List Int := (List.range n.nodes.length).map (outK n fl k)
theorem outTo_len (n : GNet) (fl : List Int) (k : Nat) : (outTo n fl k).length = n.nodes.length := by simp [outTo]
theorem outTo_zero (n : GNet) (fl : List Int) : outTo n fl 0 = List.replicate n.nodes.length 0 := by
  refine List.ext_getElem? fun u => ?_
  rw [outTo, List.getElem?_map, List.getElem?_replicate]
  by_cases hu : u < n.nodes.length
  · rw [List.getElem?_range hu, if_pos hu]; rfl
  · rw [List.getElem?_eq_none (by simp; omega), if_neg hu]; rfl
theorem outTo_get {n : GNet} {fl : List Int} {k v : Nat} (hv : v < n.nodes.length) : (outTo n fl k)[v]? = some (outK n fl k v) := by
  rw [outTo, List.getElem?_map, List.getElem?_range hv]; rfl
theorem outTo_full {n : GNet} (fl : List Int) : outTo n fl n.pipes.length = outL n fl := by
  unfold outTo outL
  refine List.map_congr_left fun v _ => ?_
  have : (eds n.pipes).length = n.pipes.length := by simp [eds]
  unfold outK outOf sm
  rw [this]
theorem outK_bnd {n : GNet} {fl : List Int} (h : flOk n fl = true) (k v : Nat) : -(60000 * (k : Int)) ≤ outK n fl k v ∧ outK n fl k v ≤ 60000 * k := by
  induction k with
  | zero => simp [outK, sm]
  | succ k ih =>
    have e : outK n fl (k + 1) v = outK n fl k v + ((if ((eds n.pipes).getD k dE).f = v then fl.getD k 0 else 0) - (if ((eds n.pipes).getD k dE).t = v then fl.getD k 0 else 0)) := sm_succ _ _
    have := flOk_get h k
    rw [e]
    split <;> split <;> omega
theorem outTo_step {n : GNet} {fl : List Int} {k : Nat} {p : GPipe} {x : Int} (hn : netOk n = true) (hp : n.pipes[k]? = some p) (hx : fl[k]? = some x) :
    outTo n fl (k + 1) = ((outTo n fl k).set p.src.toNat (outK n fl k p.src.toNat + x)).set p.dst.toNat (outK n fl k p.dst.toNat - x) := by
  have hE := eds_ok hn
  have e2 : (eds n.pipes)[k]? = some (edOf p) := by rw [eds, List.getElem?_map, hp]; rfl
  have e1 : (eds n.pipes).getD k dE = edOf p := by rw [List.getD_eq_getElem?_getD, e2]; rfl
  have ho := hE.at_ k _ e2
  have h1 : p.src.toNat < n.nodes.length := ho.1
  have h2 : p.dst.toNat < n.nodes.length := ho.2.1
  have h3 : p.src.toNat ≠ p.dst.toNat := ho.2.2.1
  have ex : fl.getD k 0 = x := by rw [List.getD_eq_getElem?_getD, hx]; rfl
  refine List.ext_getElem? fun v => ?_
  by_cases hv : v < n.nodes.length
  · rw [outTo_get hv]
    have e : outK n fl (k + 1) v = outK n fl k v + ((if p.src.toNat = v then x else 0) - (if p.dst.toNat = v then x else 0)) := by
      have := sm_succ k fun p => (if ((eds n.pipes).getD p dE).f = v then fl.getD p 0 else 0) - (if ((eds n.pipes).getD p dE).t = v then fl.getD p 0 else 0)
      rw [e1, ex] at this
      exact this
    rw [e]
    by_cases q2 : p.dst.toNat = v
    · have q1 : ¬ p.src.toNat = v := by omega
      rw [q2, List.getElem?_set_self (by rw [List.length_set, outTo_len]; exact hv)]
      simp only [q1, if_true, if_false]
      congr 1; omega
    · rw [List.getElem?_set_ne q2]
      by_cases q1 : p.src.toNat = v
      · rw [q1, List.getElem?_set_self (by rw [outTo_len]; exact hv)]
        simp only [q2, if_true, if_false]
        congr 1; omega
      · rw [List.getElem?_set_ne q1, outTo_get hv]
        simp only [q1, q2, if_false]
        congr 1; omega
  · rw [List.getElem?_eq_none (by rw [outTo_len]; omega), List.getElem?_eq_none (by simp [outTo_len]; omega)]
def soCode (n : GNet) (fl : List Int) : Int := if flCode n fl = 0 then (if supOk n.nodes.length (outL n fl) then 0 else 2) else flCode n fl
def soRes (n : GNet) (fl : List Int) : List Int := if soCode n fl = 0 then outL n fl else []
/- Pipes over their limits. -/
def ovAt (n : GNet) (fl : List Int) (i : Nat) : Bool := !decide (-(n.pipes.getD i dP).lim ≤ fl.getD i 0 ∧ fl.getD i 0 ≤ (n.pipes.getD i dP).lim)
def ovTo (n : GNet) (fl : List Int) (k : Nat) : List Nat := (List.range k).filter (ovAt n fl)
def ovRes (n : GNet) (fl : List Int) : List Nat := if flCode n fl = 0 then ovTo n fl n.pipes.length else []
def klB (n : GNet) (fl : List Int) : Bool := netOk n && flOk n fl && limOk n fl
def balB (n : GNet) (fl sup : List Int) : Bool := netOk n && flOk n fl && supOk n.nodes.length sup && decide (outL n fl = sup)
def negL (fl : List Int) : List Int := fl.map fun x => -x
def negTo (fl : List Int) (k : Nat) : List Int := negL (fl.take k)
end Go.Proofs.YthhmhigddmimjaaGreat
/-
  Plain functions: buffers and an hour. No program here.
-/
namespace Go.Proofs.YthhmhigddmimjaaGreat

structure GBuf where
  lo : List Int
  hi : List Int
  nw : List Int
def bfAt (b : GBuf) (i : Nat) : Bool := decide (0 ≤ b.lo.getD i 0) && decide (b.lo.getD i 0 ≤ b.nw.getD i 0) && decide (b.nw.getD i 0 ≤ b.hi.getD i 0) && decide (b.hi.getD i 0 ≤ 1000000000)
def bfLen (N : Nat) (b : GBuf) : Bool := decide (b.lo.length = N) && decide (b.hi.length = N) && decide (b.nw.length = N)
def bfOk (N : Nat) (b : GBuf) : Bool := bfLen N b && (List.range N).all (bfAt b)
def bcCode (n : GNet) (b : GBuf) : Int := if netOk n then (if bfOk n.nodes.length b then 0 else 3) else 1
def hrOk (n : GNet) (fl sup : List Int) : Bool := flOk n fl && supOk n.nodes.length sup
def hrCode (n : GNet) (b : GBuf) (fl sup : List Int) : Int := if bcCode n b = 0 then (if hrOk n fl sup then 0 else 2) else bcCode n b
def nxAt (n : GNet) (b : GBuf) (fl sup : List Int) (i : Nat) : Int := b.nw.getD i 0 + sup.getD i 0 - (outL n fl).getD i 0
def nxL (n : GNet) (b : GBuf) (fl sup : List Int) : List Int := (List.range n.nodes.length).map (nxAt n b fl sup)
def nxB (n : GNet) (b : GBuf) (fl sup : List Int) : GBuf := ⟨b.lo, b.hi, nxL n b fl sup⟩
def hsOk (n : GNet) (b : GBuf) (fl sup : List Int) : Bool := limOk n fl && bfOk n.nodes.length (nxB n b fl sup)
def shCode (n : GNet) (b : GBuf) (fl sup : List Int) : Int := if hrCode n b fl sup = 0 then (if hsOk n b fl sup then 0 else 7) else hrCode n b fl sup
def shRes (n : GNet) (b : GBuf) (fl sup : List Int) : GBuf := if shCode n b fl sup = 0 then nxB n b fl sup else ⟨[], [], []⟩
def ftAt (n : GNet) (b : GBuf) (fl sup : List Int) (i : Nat) : Bool := !inB (b.lo.getD i 0) (nxAt n b fl sup i) (b.hi.getD i 0)
def ftIx (n : GNet) (b : GBuf) (fl sup : List Int) : Int := match (List.range n.nodes.length).find? (ftAt n b fl sup) with
  | some i => i
  | none => -1
def ftVal (n : GNet) (b : GBuf) (fl sup : List Int) : Int := if hrCode n b fl sup = 0 then ftIx n b fl sup else 0
def ibB (n : GNet) (b : GBuf) : Bool := netOk n && bfOk n.nodes.length b
def coVal (n : GNet) (b : GBuf) : Int := if bcCode n b = 0 then b.nw.sum else 0
end Go.Proofs.YthhmhigddmimjaaGreat
