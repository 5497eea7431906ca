import Derived.Test.YtbbecboihmmllaaCap
import Derived.Test.YtbbecboihmmllaaCutM
/-
  A set of nodes and its complement part the same pipes.
-/
namespace Go.Proofs.Ytbbecboihmmllaa

/-- The nodes below k that are not in s. -/
def cplt (s : List Int) (k : Nat) : List Int := ((List.range k).map (fun (i : Nat) => (i : Int))).filter (fun i => !decide (i ∈ s))
theorem cplt_zero (s : List Int) : cplt s 0 = [] := rfl
theorem cplt_in {s : List Int} {k : Nat} (h : (k : Int) ∈ s) : cplt s (k + 1) = cplt s k := by
  unfold cplt
  rw [List.range_succ, List.map_append, List.filter_append]
  simp [h]
theorem cplt_out {s : List Int} {k : Nat} (h : (k : Int) ∉ s) : cplt s (k + 1) = cplt s k ++ [(k : Int)] := by
  unfold cplt
  rw [List.range_succ, List.map_append, List.filter_append]
  simp [h]
theorem cplt_len (s : List Int) (k : Nat) : (cplt s k).length ≤ k := by
  have := List.length_filter_le (fun i => !decide (i ∈ s)) ((List.range k).map (fun (i : Nat) => (i : Int)))
  simpa [cplt] using this
theorem cplt_mem {s : List Int} {k : Nat} {x : Int} : x ∈ cplt s k ↔ (0 ≤ x ∧ x < k) ∧ x ∉ s := by
  unfold cplt
  rw [List.mem_filter, List.mem_map]
  constructor
  · rintro ⟨⟨i, hi, rfl⟩, h⟩
    have := List.mem_range.1 hi
    exact ⟨⟨by omega, by omega⟩, by simpa using h⟩
  · rintro ⟨⟨h0, h1⟩, h⟩
    exact ⟨⟨x.toNat, List.mem_range.2 (by omega), by omega⟩, by simpa using h⟩
theorem cplt_pw (s : List Int) (k : Nat) : (cplt s k).Pairwise (· < ·) := by
  refine List.Pairwise.filter _ (List.pairwise_map.2 ?_)
  exact List.pairwise_lt_range.imp (fun h => by omega)
theorem pw_inc {s : List Int} (h : s.Pairwise (· < ·)) : incOk s = true := by
  rw [incOk, all_range]
  intro k hk
  unfold incAt
  by_cases h0 : k = 0
  · simp [h0]
  · have := List.pairwise_iff_getElem.1 h (k - 1) k (by omega) hk (by omega)
    have e1 : s.getD (k - 1) 0 = s[k - 1]'(by omega) := by simp [List.getD, List.getElem?_eq_getElem (show k - 1 < s.length by omega)]
    have e2 : s.getD k 0 = s[k] := by simp [List.getD, List.getElem?_eq_getElem hk]
    rw [e1, e2]
    simp [this]
theorem cplt_code {n : GNet} {s : List Int} (h : caCode n s = 0) : caCode n (cplt s n.nodes.length) = 0 := by
  have hn : netOk n = true := by
    unfold caCode at h
    split at h
    · assumption
    · simp at h
  rw [caCode, if_pos hn, ca_parts hn, pw_inc (cplt_pw s _), Bool.and_true, if_pos]
  rw [List.all_eq_true]
  intro x hx
  have := (cplt_mem.1 hx).1
  unfold inN inB
  simp
  omega
theorem cplt_val {n : GNet} {s : List Int} (h : caCode n s = 0) : capVal n (cplt s n.nodes.length) = capVal n s := by
  have hn : netOk n = true := by
    unfold caCode at h
    split at h
    · assumption
    · simp at h
  rw [capVal, if_pos (cplt_code h), capVal, if_pos h, capTo, capTo]
  congr 1
  refine List.map_congr_left fun p hp => ?_
  have hp' : p ∈ n.pipes := List.mem_of_mem_take hp
  obtain ⟨k, hk⟩ := List.getElem?_of_mem hp'
  have ho := pipeOk_all ((netOk_all hn).2 k _ hk)
  have e : ∀ x : Int, 0 ≤ x ∧ x < n.nodes.length → decide (x ∈ cplt s n.nodes.length) = !decide (x ∈ s) := by
    intro x hx
    by_cases hs : x ∈ s
    · have : ¬ x ∈ cplt s n.nodes.length := fun h' => (cplt_mem.1 h').2 hs
      simp [hs, this]
    · have : x ∈ cplt s n.nodes.length := cplt_mem.2 ⟨hx, hs⟩
      simp [hs, this]
  unfold capAt
  rw [e _ ⟨ho.1.1, by have := ho.1.2; omega⟩, e _ ⟨ho.2.1.1, by have := ho.2.1.2; omega⟩]
  cases decide (p.src ∈ s) <;> cases decide (p.dst ∈ s) <;> rfl
end Go.Proofs.Ytbbecboihmmllaa
/-
  Plain laws of cuts: what flows out of a set that no room leads out of; the full flow; routing. No program here.
-/
namespace Go.Proofs.Ytbbecboihmmllaa

def dP : GPipe := ⟨0, 0, 0, 0, 0⟩
def sm (n : Nat) (g : Nat → Int) : Int := ((List.range n).map g).sum
theorem sm_zero (g : Nat → Int) : sm 0 g = 0 := rfl
theorem sm_succ (n : Nat) (g : Nat → Int) : sm (n + 1) g = sm n g + g n := by
  unfold sm
  rw [List.range_succ, List.map_append, List.sum_append]
  simp
theorem sm_congr {n : Nat} {g h : Nat → Int} (e : ∀ i, i < n → g i = h i) : sm n g = sm n h := by
  unfold sm
  rw [List.map_congr_left fun i hi => e i (List.mem_range.1 hi)]
theorem sm_add (n : Nat) (g h : Nat → Int) : sm n (fun i => g i + h i) = sm n g + sm n h := by
  induction n with
  | zero => rfl
  | succ n ih => rw [sm_succ, sm_succ, sm_succ, ih]; omega
theorem sm_sub (n : Nat) (g h : Nat → Int) : sm n (fun i => g i - h i) = sm n g - sm n h := by
  induction n with
  | zero => rfl
  | succ n ih => rw [sm_succ, sm_succ, sm_succ, ih]; omega
theorem sm_le {n : Nat} {g h : Nat → Int} (e : ∀ i, i < n → g i ≤ h i) : sm n g ≤ sm n h := by
  induction n with
  | zero => exact Int.le_refl _
  | succ n ih =>
    rw [sm_succ, sm_succ]
    have h1 := ih fun i hi => e i (by omega)
    have h2 := e n (by omega)
    omega
theorem sm_nil (n : Nat) : sm n (fun _ => 0) = 0 := by
  induction n with
  | zero => rfl
  | succ n ih => rw [sm_succ, ih]; rfl
theorem sm_swap (n m : Nat) (g : Nat → Nat → Int) : sm n (fun i => sm m (fun j => g i j)) = sm m (fun j => sm n (fun i => g i j)) := by
  induction n with
  | zero => exact (sm_nil m).symm
  | succ n ih =>
    rw [sm_succ, ih, ← sm_add]
    exact sm_congr fun j _ => (sm_succ n (fun i => g i j)).symm
theorem sm_pick {n f : Nat} (hf : f < n) (g : Nat → Int) : sm n (fun v => if f = v then g v else 0) = g f := by
  induction n with
  | zero => omega
  | succ n ih =>
    rw [sm_succ]
    by_cases e : f = n
    · subst e
      have : sm f (fun v => if f = v then g v else 0) = 0 := by
        exact (sm_congr (fun i hi => by rw [if_neg (show ¬ f = i by omega)])).trans (sm_nil f)
      rw [this, if_pos rfl]; omega
    · rw [ih (by omega), if_neg e]; omega
theorem sm_list {α : Type} (d : α) (l : List α) (g : α → Int) : (l.map g).sum = sm l.length (fun i => g (l.getD i d)) := by
  induction l with
  | nil => rfl
  | cons a l ih =>
    have e : ∀ (n : Nat) (h : Nat → Int), sm (n + 1) h = h 0 + sm n (fun i => h (i + 1)) := by
      intro n h
      induction n with
      | zero => simp [sm]
      | succ n ihn => rw [sm_succ, ihn, sm_succ]; omega
    rw [List.map_cons, List.sum_cons, ih, List.length_cons, e]
    rfl
def bsum (b : Nat → Bool) (N : Nat) (g : Nat → Int) : Int := sm N (fun v => if b v = true then g v else 0)
def cutE (b : Nat → Bool) (e : Ed) : Int := if (b e.f != b e.t) = true then e.lim else 0
def cutV (es : List Ed) (b : Nat → Bool) : Int := sm es.length (fun p => cutE b (es.getD p dE))
theorem ed_at {es : List Ed} {p : Nat} (hp : p < es.length) : es[p]? = some (es.getD p dE) := by
  rw [List.getD_eq_getElem?_getD, List.getElem?_eq_getElem hp]; rfl
/-- What flows out of a set. -/
theorem out_set {es : List Ed} {N : Nat} (hE : EsOk es N) (fl : List Int) (b : Nat → Bool) :
    bsum b N (outOf es fl) = sm es.length (fun p => (if b (es.getD p dE).f = true then fl.getD p 0 else 0) - (if b (es.getD p dE).t = true then fl.getD p 0 else 0)) := by
  have e1 : bsum b N (outOf es fl) = sm N (fun v => sm es.length (fun p => (if (es.getD p dE).f = v then (if b v = true then fl.getD p 0 else 0) else 0) - (if (es.getD p dE).t = v then (if b v = true then fl.getD p 0 else 0) else 0))) := by
    unfold bsum
    refine sm_congr fun v _ => ?_
    by_cases hb : b v = true
    · rw [if_pos hb]
      refine sm_congr fun p _ => ?_
      simp [hb]
    · rw [if_neg hb, ← sm_nil es.length]
      refine sm_congr fun p _ => ?_
      simp [hb]
  rw [e1, sm_swap]
  refine sm_congr fun p hp => ?_
  obtain ⟨h1, h2, _⟩ := hE.at_ p _ (ed_at hp)
  rw [sm_sub, sm_pick h1 (fun v => if b v = true then fl.getD p 0 else 0), sm_pick h2 (fun v => if b v = true then fl.getD p 0 else 0)]
theorem out_all {es : List Ed} {N : Nat} (hE : EsOk es N) (fl : List Int) : sm N (outOf es fl) = 0 := by
  have h := out_set hE fl (fun _ => true)
  unfold bsum at h
  simp only [if_true] at h
  rw [h, ← sm_nil es.length]
  exact sm_congr fun p _ => by simp
theorem out_cut_le {es : List Ed} {N : Nat} (hE : EsOk es N) {fl : List Int} (hk : Keeps es fl) (b : Nat → Bool) : bsum b N (outOf es fl) ≤ cutV es b := by
  rw [out_set hE]
  refine sm_le fun p hp => ?_
  have h := hk.at_ p _ (ed_at hp)
  have hl := hE.at_ p _ (ed_at hp)
  unfold cutE
  cases b (es.getD p dE).f <;> cases b (es.getD p dE).t <;> simp [-List.getD_eq_getElem?_getD] <;> omega
/-- A set that no room leads out of. -/
def Closed (es : List Ed) (fl : List Int) (b : Nat → Bool) : Prop := ∀ v p, b v = true → p ∈ atN es v → 0 < room es fl p v → b (oth (es.getD p dE) v) = true
theorem out_cut_eq {es : List Ed} {N : Nat} (hE : EsOk es N) {fl : List Int} (hk : Keeps es fl) {b : Nat → Bool} (hc : Closed es fl b) : bsum b N (outOf es fl) = cutV es b := by
  rw [out_set hE]
  refine sm_congr fun p hp => ?_
  have h := hk.at_ p _ (ed_at hp)
  have hl := hE.at_ p _ (ed_at hp)
  have c1 := hc (es.getD p dE).f p
  have c2 := hc (es.getD p dE).t p
  have m1 : p ∈ atN es (es.getD p dE).f := mem_atN.2 ⟨hp, by simp [touch]⟩
  have m2 : p ∈ atN es (es.getD p dE).t := mem_atN.2 ⟨hp, by simp [touch]⟩
  have r1 : room es fl p (es.getD p dE).f = (es.getD p dE).lim - fl.getD p 0 := by rw [room, if_pos rfl]
  have r2 : room es fl p (es.getD p dE).t = (es.getD p dE).lim + fl.getD p 0 := by rw [room, if_neg hl.2.2.1]
  have o1 : oth (es.getD p dE) (es.getD p dE).f = (es.getD p dE).t := by rw [oth, if_pos rfl]
  have o2 : oth (es.getD p dE) (es.getD p dE).t = (es.getD p dE).f := by rw [oth, if_neg hl.2.2.1]
  rw [r1, o1] at c1
  rw [r2, o2] at c2
  unfold cutE
  cases hf : b (es.getD p dE).f <;> cases ht : b (es.getD p dE).t
  · simp [-List.getD_eq_getElem?_getD]
  · have : ¬ 0 < (es.getD p dE).lim + fl.getD p 0 := fun q => by have := c2 ht m2 q; rw [hf] at this; cases this
    simp [-List.getD_eq_getElem?_getD]; omega
  · have : ¬ 0 < (es.getD p dE).lim - fl.getD p 0 := fun q => by have := c1 hf m1 q; rw [ht] at this; cases this
    simp [-List.getD_eq_getElem?_getD]; omega
  · simp [-List.getD_eq_getElem?_getD]
/- The search finds all that can be reached. -/
theorem vis_get {es : List Ed} {fl : List Int} {v : Nat} {s : St} {p j u : Nat} (h : s.ord[j]? = some u) : (vis es fl v s p).ord[j]? = some u := by
  unfold vis
  split
  · rw [List.getElem?_append_left (List.getElem?_eq_some_iff.1 h).1]; exact h
  · exact h
theorem fold_get {es : List Ed} {fl : List Int} {v j u : Nat} (l : List Nat) {s : St} (h : s.ord[j]? = some u) : (l.foldl (vis es fl v) s).ord[j]? = some u := by
  induction l generalizing s with
  | nil => exact h
  | cons p l ih => exact ih (vis_get h)
theorem sst_get {es : List Ed} {fl : List Int} {N node j u k : Nat} (m : Nat) (h : (sst es fl N node k).ord[j]? = some u) : (sst es fl N node (k + m)).ord[j]? = some u := by
  induction m with
  | zero => exact h
  | succ m ih =>
    rw [← Nat.add_assoc, sst]
    split
    · exact fold_get _ ih
    · exact ih
theorem vis_has {es : List Ed} {fl : List Int} {N node : Nat} (hE : EsOk es N) {s : St} (h : Inv es fl N node s) {v p : Nat} (hp : p ∈ atN es v) (hr : 0 < room es fl p v) : oth (es.getD p dE) v ∈ (vis es fl v s p).ord := by
  unfold vis
  by_cases hg : goes es fl v s p = true
  · rw [if_pos hg]; simp
  · rw [if_neg hg]
    have hpl := (mem_atN.1 hp).1
    have hl := hE.at_ p _ (ed_at hpl)
    have ho : oth (es.getD p dE) v < N := by
      unfold oth; split
      · exact hl.2.1
      · exact hl.1
    have : s.seen.getD (oth (es.getD p dE) v) true = true := by
      cases hs : s.seen.getD (oth (es.getD p dE) v) true with
      | true => rfl
      | false => exact absurd (by rw [goes, hs, decide_eq_true hr]; rfl) hg
    exact (h.sn _ ho).1 this
theorem fold_has {es : List Ed} {fl : List Int} {N node : Nat} (hE : EsOk es N) {v : Nat} (l : List Nat) (hl : ∀ p ∈ l, p ∈ atN es v) {s : St} (h : Inv es fl N node s) (hv : v ∈ s.ord) {p : Nat} (hp : p ∈ l) (hr : 0 < room es fl p v) : oth (es.getD p dE) v ∈ (l.foldl (vis es fl v) s).ord := by
  induction l generalizing s with
  | nil => cases hp
  | cons q l ih =>
    obtain ⟨h1, h2⟩ := inv_vis hE h hv (hl q (by simp))
    rcases List.mem_cons.1 hp with e | e
    · subst e
      obtain ⟨j, hj⟩ := List.getElem?_of_mem (vis_has hE h (hl p (by simp)) hr)
      exact List.mem_of_getElem? (fold_get l hj)
    · exact ih (fun r hr => hl r (by simp [hr])) h1 h2 e
theorem srch_closed {es : List Ed} {fl : List Int} {N node : Nat} (hE : EsOk es N) (hn : node < N) {v p : Nat} (hv : v ∈ (srch es fl N node).ord) (hp : p ∈ atN es v) (hr : 0 < room es fl p v) : oth (es.getD p dE) v ∈ (srch es fl N node).ord := by
  obtain ⟨j, hj⟩ := List.getElem?_of_mem hv
  have hjl := (List.getElem?_eq_some_iff.1 hj).1
  have hlen := (inv_srch (fl := fl) hE hn).len
  have hjN : j < N := by omega
  have hlt : j < (sst es fl N node j).ord.length := by
    rcases Nat.lt_or_ge j (sst es fl N node j).ord.length with h | h
    · exact h
    · have := sst_stop h (N - j)
      rw [Nat.add_sub_cancel' (by omega)] at this
      unfold srch at hjl
      rw [this] at hjl
      omega
  have hg : (sst es fl N node j).ord[j]? = some v := by
    have h1 := List.getElem?_eq_getElem hlt
    have h2 := sst_get (N - j) h1
    rw [Nat.add_sub_cancel' (by omega)] at h2
    have h3 : (srch es fl N node).ord[j]? = some _ := h2
    rw [hj] at h3
    rw [h1, ← h3]
  have hI := inv_sst (fl := fl) hE hn j
  have h1 : oth (es.getD p dE) v ∈ (sst es fl N node (j + 1)).ord := by
    rw [sst, hg]
    exact fold_has hE _ (fun _ h => h) hI (List.mem_of_getElem? hg) hp hr
  obtain ⟨i, hi⟩ := List.getElem?_of_mem h1
  have h2 := sst_get (N - (j + 1)) hi
  rw [Nat.add_sub_cancel' (by omega)] at h2
  exact List.mem_of_getElem? h2
/- What a sending does tg each node. -/
theorem outOf_push_at {es : List Ed} {N node : Nat} (hE : EsOk es N) {fl0 : List Int} {s : St} (h : Inv es fl0 N node s) {a : Int} {fl : List Int} (hlen : fl.length = es.length) {v : Nat} (hv : v ∈ s.ord) (hvn : v ≠ node) (u : Nat) :
    outOf es (push1 es s a fl v) u = outOf es fl u + (if back es s v = u then a else 0) - (if v = u then a else 0) := by
  obtain ⟨j, hj⟩ := List.mem_iff_getElem?.1 hv
  obtain ⟨e, i, q1, q2, q3, q4, q5, q6⟩ := h.back hE hj hvn
  have hed : es.getD (s.ent.getD v 0) dE = e := by rw [List.getD_eq_getElem?_getD, q1]; rfl
  have hpl : s.ent.getD v 0 < es.length := (List.getElem?_eq_some_iff.1 q1).1
  have hval : (push1 es s a fl v).getD (s.ent.getD v 0) 0 = if e.t = v then fl.getD (s.ent.getD v 0) 0 + a else fl.getD (s.ent.getD v 0) 0 - a := by
    rw [push1, hed, List.getD_eq_getElem?_getD, List.getElem?_set, if_pos rfl, if_pos (by omega)]; rfl
  unfold outOf
  rw [sum_map_set (p := s.ent.getD v 0) (fun p => (if (es.getD p dE).f = u then fl.getD p 0 else 0) - (if (es.getD p dE).t = u then fl.getD p 0 else 0)) _ hpl (fun q hq => by simp only [push1_get (fun x => hq x.symm)])]
  rw [hval, hed, Int.add_sub_assoc]
  congr 1
  rcases q5 with ⟨x1, x2⟩ | ⟨x1, x2⟩
  · rw [if_pos x2, ← x1, ← x2]
    by_cases hf : e.f = u
    · have : e.t ≠ u := by omega
      simp only [hf, this, if_true, if_false]; omega
    · by_cases ht : e.t = u
      · simp only [hf, ht, if_true, if_false]; omega
      · simp only [hf, ht, if_false]; omega
  · have h1 : e.t ≠ v := by omega
    rw [if_neg h1, ← x1, ← x2]
    by_cases hf : e.f = u
    · have : e.t ≠ u := by omega
      simp only [hf, this, if_true, if_false]; omega
    · by_cases ht : e.t = u
      · simp only [hf, ht, if_true, if_false]; omega
      · simp only [hf, ht, if_false]; omega
theorem outOf_pushes_at {es : List Ed} {N node : Nat} (hE : EsOk es N) {fl0 : List Int} {s : St} (h : Inv es fl0 N node s) {a : Int} (j : Nat) : ∀ (v : Nat) (fl : List Int), s.ord[j]? = some v → v ≠ node → fl.length = es.length → ∀ u,
    outOf es (pushes es s a (pth es s node v) fl) u = outOf es fl u + (if node = u then a else 0) - (if v = u then a else 0) := by
  induction j using Nat.strongRecOn with
  | ind j ih =>
    intro v fl hj hv hl u
    obtain ⟨e, i, _, hi, hij, _⟩ := h.back hE hj hv
    have hm := List.mem_of_getElem? hj
    rw [pth_step hE h hm hv, pushes_cons]
    have h1 := outOf_push_at hE h (a := a) hl hm hv u
    by_cases hb : back es s v = node
    · rw [hb, pth_end]
      rw [hb] at h1
      exact h1
    · rw [ih i hij _ _ hi hb (by rw [push1_len]; exact hl), h1]
      omega
/- The full flow. -/
structure FfOk (es : List Ed) (N node tg : Nat) (fl : List Int) : Prop where
  keeps : Keeps es fl
  pos : 0 ≤ outOf es fl node
  zero : ∀ u, u ≠ node → u ≠ tg → outOf es fl u = 0
theorem ff_next {es : List Ed} {N node tg : Nat} (hE : EsOk es N) (hn : node < N) (hne : tg ≠ node) {fl : List Int} (h : FfOk es N node tg fl) (hg : ffGo es N node tg fl) :
    FfOk es N node tg (ffS es N node tg fl) ∧ outOf es fl node < outOf es (ffS es N node tg fl) node := by
  obtain ⟨a1, a2, a3, a4⟩ := ff_step hE hn hne h.keeps hg
  have hI := inv_srch (fl := fl) hE hn
  obtain ⟨j, hj⟩ := List.mem_iff_getElem?.1 hg
  have hp := h.pos
  refine ⟨⟨a3, by omega, fun u hu1 hu2 => ?_⟩, by omega⟩
  have := outOf_pushes_at hE hI (a := ffA es N node tg fl) j tg fl hj hne h.keeps.len u
  rw [if_neg (fun e => hu1 e.symm), if_neg (fun e => hu2 e.symm), h.zero u hu1 hu2] at this
  simpa [ffS] using this
theorem ff_end {es : List Ed} {N node tg : Nat} (hE : EsOk es N) (hn : node < N) (hne : tg ≠ node) (m : Nat) : ∀ fl, FfOk es N node tg fl → (30000 * (es.length : Int) - outOf es fl node).toNat ≤ m →
    ∃ g, Reach (ffGo es N node tg) (ffS es N node tg) fl g ∧ ¬ ffGo es N node tg g ∧ FfOk es N node tg g := by
  induction m with
  | zero =>
    intro fl h hm
    by_cases hg : ffGo es N node tg fl
    · obtain ⟨h1, h2⟩ := ff_next hE hn hne h hg
      have := outOf_le hE h1.keeps node
      omega
    · exact ⟨fl, .refl _, hg, h⟩
  | succ m ih =>
    intro fl h hm
    by_cases hg : ffGo es N node tg fl
    · obtain ⟨h1, h2⟩ := ff_next hE hn hne h hg
      have := outOf_le hE h1.keeps node
      obtain ⟨g, r, q1, q2⟩ := ih _ h1 (by omega)
      exact ⟨g, .step hg r, q1, q2⟩
    · exact ⟨fl, .refl _, hg, h⟩
theorem mfl_spec {es : List Ed} {N node tg : Nat} (hE : EsOk es N) (hn : node < N) (hne : tg ≠ node) : ¬ ffGo es N node tg (mfl es N node tg) ∧ FfOk es N node tg (mfl es N node tg) := by
  obtain ⟨g, r, h1, h2⟩ := ff_end hE hn hne _ (List.replicate es.length 0) ⟨keeps_zero hE, by rw [outOf_zero]; exact Int.le_refl _, fun u _ _ => outOf_zero es u⟩ (Nat.le_refl _)
  rw [mfl, fin_eq r h1]
  exact ⟨h1, h2⟩
theorem bsum_one {N a : Nat} {b : Nat → Bool} {g : Nat → Int} (ha : a < N) (hb : b a = true) (hz : ∀ v, v < N → b v = true → v ≠ a → g v = 0) : bsum b N g = g a := by
  unfold bsum
  rw [← sm_pick ha g]
  refine sm_congr fun v hv => ?_
  by_cases e : a = v
  · subst e; rw [if_pos hb, if_pos rfl]
  · rw [if_neg e]
    by_cases hbv : b v = true
    · rw [if_pos hbv]; exact hz v hv hbv (fun h => e h.symm)
    · rw [if_neg hbv]
theorem ff_cut_le {es : List Ed} {N a c : Nat} (hE : EsOk es N) (ha : a < N) {fl : List Int} (h : FfOk es N a c fl) {b : Nat → Bool} (hb : b a = true) (hc : b c = false) : outOf es fl a ≤ cutV es b := by
  have h1 := out_cut_le hE h.keeps b
  rw [bsum_one ha hb (fun v _ hv hva => h.zero v hva (fun e => by rw [e, hc] at hv; cases hv))] at h1
  exact h1
def inS (l : List Nat) (v : Nat) : Bool := decide (v ∈ l)
theorem ff_cut {es : List Ed} {N a c : Nat} (hE : EsOk es N) (ha : a < N) (hne : c ≠ a) :
    outOf es (mfl es N a c) a = cutV es (inS (srch es (mfl es N a c) N a).ord) ∧ a ∈ (srch es (mfl es N a c) N a).ord ∧ c ∉ (srch es (mfl es N a c) N a).ord := by
  obtain ⟨h1, h2⟩ := mfl_spec hE ha hne
  have hI := inv_srch (fl := mfl es N a c) hE ha
  have hm : a ∈ (srch es (mfl es N a c) N a).ord := List.mem_of_getElem? hI.hd
  have hcl : Closed es (mfl es N a c) (inS (srch es (mfl es N a c) N a).ord) := fun v p hv hp hr => decide_eq_true (srch_closed hE ha (of_decide_eq_true hv) hp hr)
  have h3 := out_cut_eq hE h2.keeps hcl
  rw [bsum_one ha (decide_eq_true hm) (fun v _ hv hva => h2.zero v hva (fun e => h1 (by have q : v ∈ (srch es (mfl es N a c) N a).ord := of_decide_eq_true hv; rw [e] at q; exact q)))] at h3
  exact ⟨h3, hm, h1⟩
theorem cut_not (es : List Ed) (b : Nat → Bool) : cutV es (fun v => !b v) = cutV es b := by
  unfold cutV
  refine sm_congr fun p _ => ?_
  show (if ((!b (es.getD p dE).f) != (!b (es.getD p dE).t)) = true then (es.getD p dE).lim else 0) = (if (b (es.getD p dE).f != b (es.getD p dE).t) = true then (es.getD p dE).lim else 0)
  cases b (es.getD p dE).f <;> cases b (es.getD p dE).t <;> rfl
theorem ff_back {es : List Ed} {N a c : Nat} (hE : EsOk es N) (ha : a < N) (hc : c < N) (hne : c ≠ a) : outOf es (mfl es N c a) c = outOf es (mfl es N a c) a := by
  have key : ∀ {a c : Nat}, a < N → c < N → c ≠ a → outOf es (mfl es N c a) c ≤ outOf es (mfl es N a c) a := by
    intro a c ha hc hne
    obtain ⟨h1, h2, h3⟩ := ff_cut hE ha hne
    rw [h1, ← cut_not]
    exact ff_cut_le hE hc (mfl_spec hE hc (fun e => hne e.symm)).2 (by simp [inS, h3]) (by simp [inS, h2])
  have := key ha hc hne
  have := key hc ha (fun e => hne e.symm)
  omega
/- Capacities of sets of nodes of a network. -/
theorem cap_cut {n : GNet} (hn : netOk n = true) (l : List Nat) : capTo n (casts (memTo l n.nodes.length)) n.pipes.length = cutV (eds n.pipes) (inS l) := by
  unfold capTo cutV
  rw [List.take_length, sm_list dP]
  have hl : (eds n.pipes).length = n.pipes.length := by simp [eds]
  rw [hl]
  refine sm_congr fun p hp => ?_
  have hx : n.pipes[p]? = some n.pipes[p] := List.getElem?_eq_getElem hp
  have ho := pipeOk_all ((netOk_all hn).2 p _ hx)
  have e1 : n.pipes.getD p dP = n.pipes[p] := by rw [List.getD_eq_getElem?_getD, hx]; rfl
  have e2 : (eds n.pipes).getD p dE = edOf n.pipes[p] := by rw [List.getD_eq_getElem?_getD, eds, List.getElem?_map, hx]; rfl
  have key : ∀ x : Int, 0 ≤ x → x < n.nodes.length → decide (x ∈ casts (memTo l n.nodes.length)) = inS l x.toNat := by
    intro x h0 h1
    unfold inS
    rw [decide_eq_decide, mem_casts']
    constructor
    · rintro ⟨v, hv, e⟩
      have := (memTo_mem.1 hv).2
      rw [← e]; simpa using this
    · intro h
      exact ⟨x.toNat, memTo_mem.2 ⟨by omega, h⟩, by omega⟩
  rw [e1, e2]
  unfold capAt cutE edOf
  rw [key _ ho.1.1 (by have := ho.1.2; omega), key _ ho.2.1.1 (by have := ho.2.1.2; omega)]
theorem memTo_code {n : GNet} (hn : netOk n = true) (l : List Nat) : caCode n (casts (memTo l n.nodes.length)) = 0 := by
  rw [caCode, if_pos hn, ca_parts hn, pw_inc (memTo_pw _ _), Bool.and_true, if_pos]
  rw [List.all_eq_true]
  intro x hx
  obtain ⟨v, hv, e⟩ := mem_casts'.1 hx
  have := (memTo_mem.1 hv).1
  unfold inN inB
  simp
  omega
theorem cuts_law {n : GNet} {a b : Int} (h : gfCode n a b = 0) : caCode n (lcRes n a b) = 0 ∧ capVal n (lcRes n a b) = gfVal n a b ∧ gfCode n b a = 0 ∧ gfVal n b a = gfVal n a b ∧ a ∈ lcRes n a b ∧ b ∉ lcRes n a b := by
  obtain ⟨hn, h1, h2, h3⟩ := gfCode_zero h
  have hb : gfCode n b a = 0 := by
    rw [gfCode, if_pos hn, if_pos]
    rw [h1, h2]
    have : ¬ b = a := fun e => h3 e.symm
    simp [this]
  have hE := eds_ok hn
  have k1 : 0 ≤ a ∧ a < n.nodes.length := by simp [inN, inB] at h1; omega
  have k2 : 0 ≤ b ∧ b < n.nodes.length := by simp [inN, inB] at h2; omega
  have hne : b.toNat ≠ a.toNat := by omega
  obtain ⟨c1, c2, c3⟩ := ff_cut (es := eds n.pipes) (N := n.nodes.length) (a := a.toNat) (c := b.toNat) hE (by omega) hne
  have e1 : lcRes n a b = casts (memTo (lcList n a.toNat b.toNat) n.nodes.length) := by rw [lcRes, if_pos h]
  have hc : caCode n (lcRes n a b) = 0 := by rw [e1]; exact memTo_code hn _
  refine ⟨hc, ?_, hb, ?_, ?_, ?_⟩
  · rw [capVal, if_pos hc, gfVal, if_pos h, e1, cap_cut hn, c1]; rfl
  · rw [gfVal, if_pos hb, gfVal, if_pos h]
    exact ff_back hE (by omega) (by omega) hne
  · rw [e1, mem_casts']
    exact ⟨a.toNat, memTo_mem.2 ⟨by omega, c2⟩, by omega⟩
  · rw [e1, mem_casts']
    rintro ⟨v, hv, e⟩
    have := (memTo_mem.1 hv).2
    have hv' : v = b.toNat := by omega
    rw [hv'] at this
    exact c3 this
end Go.Proofs.Ytbbecboihmmllaa
/-
  Plain laws of routing: what is routed is balanced within all limits; what blocks has more supply than capacity. No program here.
-/
namespace Go.Proofs.Ytbbecboihmmllaa

structure RtInv (es : List Ed) (N : Nat) (sup : List Int) (p : List Int × List Int) : Prop where
  ok : RtOk es N p
  bal : ∀ u, u < N → outOf es p.1 u + p.2.getD u 0 = sup.getD u 0
theorem rti_next {es : List Ed} {N : Nat} {sup : List Int} (hE : EsOk es N) {p : List Int × List Int} (h : RtInv es N sup p) (hg : rtGo es N p) : RtInv es N sup (rtN es N p) ∧ posS (rtN es N p).2 < posS p.2 := by
  obtain ⟨fl, lf⟩ := p
  obtain ⟨i, hi⟩ := Option.isSome_iff_exists.1 hg
  have hi1 : rtAt es N fl lf i = true := List.find?_some hi
  have hi2 : i < N := List.mem_range.1 (List.mem_of_find?_eq_some hi)
  rw [rtAt, Bool.and_eq_true] at hi1
  obtain ⟨h0, h1⟩ := hi1
  have h0 := of_decide_eq_true h0
  obtain ⟨t, ht⟩ := Option.isSome_iff_exists.1 h1
  obtain ⟨r1, r2⟩ := rt_step hE h.ok hi2 h0 ht
  rw [rtN_eq hi ht]
  refine ⟨⟨r1, fun u hu => ?_⟩, r2⟩
  obtain ⟨t1, t2⟩ := tgt_spec ht
  have hI := inv_srch (fl := fl) hE hi2
  have htN := hI.lt t t1
  have hne : t ≠ i := by intro e; rw [e] at t2; omega
  obtain ⟨j, hj⟩ := List.mem_iff_getElem?.1 t1
  have e1 := outOf_pushes_at hE hI (a := sndA es fl lf N i t) j t fl hj hne h.ok.keeps.len u
  have hb := h.bal u hu
  have hl : lf.length = N := h.ok.len
  show outOf es (sndF es fl lf N i t) u + (sndL es fl lf N i t).getD u 0 = _
  simp only at hb
  rw [sndF, e1, sndL]
  by_cases x1 : t = u
  · subst x1
    rw [getD_set_self (by simp [hl, htN]), if_neg (fun e => hne e.symm), if_pos rfl]; omega
  · rw [getD_set_ne x1, if_neg x1]
    by_cases x2 : i = u
    · subst x2
      rw [getD_set_self (by omega), if_pos rfl]; omega
    · rw [getD_set_ne x2, if_neg x2]; omega
theorem rt_end {es : List Ed} {N : Nat} {sup : List Int} (hE : EsOk es N) (m : Nat) : ∀ p, RtInv es N sup p → posS p.2 ≤ m → ∃ g, Reach (rtGo es N) (rtN es N) p g ∧ ¬ rtGo es N g ∧ RtInv es N sup g := by
  induction m with
  | zero =>
    intro p h hm
    by_cases hg : rtGo es N p
    · have := (rti_next hE h hg).2; omega
    · exact ⟨p, .refl _, hg, h⟩
  | succ m ih =>
    intro p h hm
    by_cases hg : rtGo es N p
    · obtain ⟨h1, h2⟩ := rti_next hE h hg
      obtain ⟨g, r, q1, q2⟩ := ih _ h1 (by omega)
      exact ⟨g, .step hg r, q1, q2⟩
    · exact ⟨p, .refl _, hg, h⟩
theorem rt_spec {es : List Ed} {N : Nat} {sup : List Int} (hE : EsOk es N) (hl : sup.length = N) (hb : ∀ (k : Nat) (z : Int), sup[k]? = some z → -1000000000 ≤ z ∧ z ≤ 1000000000) : ¬ rtGo es N (rt es N sup) ∧ RtInv es N sup (rt es N sup) := by
  obtain ⟨g, r, h1, h2⟩ := rt_end (sup := sup) hE _ (List.replicate es.length 0, sup) ⟨⟨keeps_zero hE, hl, hb⟩, fun u _ => by show outOf es (List.replicate es.length 0) u + _ = _; rw [outOf_zero]; exact Int.zero_add _⟩ (Nat.le_refl _)
  rw [rt, fin_eq r h1]
  exact ⟨h1, h2⟩
theorem rt_stop {es : List Ed} {N : Nat} {p : List Int × List Int} (h : ¬ rtGo es N p) {i v : Nat} (hi : i < N) (h0 : 0 < p.2.getD i 0) (hv : v ∈ (srch es p.1 N i).ord) : 0 ≤ p.2.getD v 0 := by
  have h1 : rtF es N p = none := by
    cases hr : rtF es N p with
    | none => rfl
    | some k => exact absurd (by rw [rtGo, hr]; rfl) h
  have h2 : rtAt es N p.1 p.2 i ≠ true := List.find?_eq_none.1 h1 i (List.mem_range.2 hi)
  have h3 : tgt es p.1 p.2 N i = none := by
    cases ht : tgt es p.1 p.2 N i with
    | none => rfl
    | some t => exact absurd (rtAt_yes h0 ht) h2
  have h4 : (srch es p.1 N i).ord.find? (ng p.2) = none := h3
  have h5 := List.find?_eq_none.1 h4 v hv
  unfold ng at h5
  have h6 : ¬ p.2.getD v 0 < 0 := fun e => h5 (decide_eq_true e)
  omega
theorem sum_set' {l : List Int} {k : Nat} {z : Int} (h : k < l.length) : (l.set k z).sum = l.sum - l.getD k 0 + z := by
  induction l generalizing k with
  | nil => simp at h
  | cons a l ih =>
    cases k with
    | zero => simp; omega
    | succ k =>
      have := ih (k := k) (by simpa using h)
      simp only [List.set_cons_succ, List.sum_cons, List.getD_cons_succ] at this ⊢
      omega
theorem sumTo_total {c sup : List Int} {N : Nat} (hc : ∀ v, v < N → 0 ≤ c.getD v 0 ∧ c.getD v 0 < N) (k : Nat) (hk : k ≤ N) : (sumTo c sup N k).sum = sm k (fun i => sup.getD i 0) := by
  induction k with
  | zero =>
    have : sumTo c sup N 0 = List.replicate N 0 := rfl
    rw [this, sm_zero]
    clear hk hc this
    induction N with
    | zero => rfl
    | succ N ih => rw [List.replicate_succ, List.sum_cons, ih]; rfl
  | succ k ih =>
    have h1 := ih (by omega)
    have h2 := hc k (by omega)
    rw [sumTo_succ, sumStep, sum_set' (by rw [sumTo_len]; omega), h1, sm_succ]
    omega
theorem zeroB_get {l : List Int} (h : zeroB l = true) (k : Nat) : l.getD k 0 = 0 := by
  rcases getD_mem_or (l := l) k with e | e
  · exact e
  · have := inB_le (List.all_eq_true.1 h _ e); omega
theorem zeroB_sum {l : List Int} (h : zeroB l = true) : l.sum = 0 := by
  induction l with
  | nil => rfl
  | cons a l ih =>
    rw [zeroB, List.all_cons, Bool.and_eq_true] at h
    have := inB_le h.1
    rw [List.sum_cons, ih h.2]
    omega
theorem zeroB_of {l : List Int} (h : ∀ k, k < l.length → l.getD k 0 = 0) : zeroB l = true := by
  rw [zeroB, List.all_eq_true]
  intro z hz
  obtain ⟨k, hk⟩ := List.getElem?_of_mem hz
  have h1 := h k (List.getElem?_eq_some_iff.1 hk).1
  rw [List.getD_eq_getElem?_getD, hk] at h1
  have : z = 0 := h1
  subst this; rfl
theorem sm_pos {n k : Nat} {g : Nat → Int} (h : ∀ i, i < n → 0 ≤ g i) (hk : k < n) (hg : 0 < g k) : 0 < sm n g := by
  induction n with
  | zero => omega
  | succ n ih =>
    rw [sm_succ]
    have h0 : 0 ≤ sm n g := by
      have := sm_le (g := fun _ => 0) (h := g) (n := n) (fun i hi => h i (by omega))
      rw [sm_nil] at this; exact this
    by_cases e : k = n
    · subst e; omega
    · have := ih (fun i hi => h i (by omega)) (by omega)
      have := h n (by omega)
      omega
theorem even_total {es : List Ed} {N : Nat} {sup : List Int} (hE : EsOk es N) (h : evB es N sup = true) : sm N (fun i => sup.getD i 0) = 0 := by
  have h1 := zeroB_sum h
  rw [sumTo_total (comps_in hE) N (Nat.le_refl _)] at h1
  exact h1
theorem memTo_sum (l : List Nat) (N : Nat) (g : Nat → Int) : ((memTo l N).map g).sum = bsum (inS l) N g := by
  unfold bsum
  induction N with
  | zero => rfl
  | succ N ih =>
    rw [sm_succ, ← ih]
    unfold memTo inS
    rw [List.range_succ, List.filter_append, List.map_append, List.sum_append]
    congr 1
    by_cases h : N ∈ l
    · simp [h]
    · simp [h]
/-- The supply of a set of nodes. -/
def supOf (sup s : List Int) : Int := (s.map fun v => sup.getD v.toNat 0).sum
theorem blk_law {es : List Ed} {N : Nat} {sup : List Int} (hE : EsOk es N) (hl : sup.length = N) (hb : ∀ (k : Nat) (z : Int), sup[k]? = some z → -1000000000 ≤ z ∧ z ≤ 1000000000) (hev : evB es N sup = true) (hz : zeroB (rt es N sup).2 = false) :
    blkTo es N (rt es N sup).1 (rt es N sup).2 N ≠ [] ∧ cutV es (inS (blkTo es N (rt es N sup).1 (rt es N sup).2 N)) < bsum (inS (blkTo es N (rt es N sup).1 (rt es N sup).2 N)) N (fun v => sup.getD v 0) := by
  obtain ⟨h1, h2⟩ := rt_spec hE hl hb
  obtain ⟨fl, hfl⟩ : ∃ fl, fl = (rt es N sup).1 := ⟨_, rfl⟩
  obtain ⟨lf, hlf⟩ : ∃ lf, lf = (rt es N sup).2 := ⟨_, rfl⟩
  have hkp := h2.ok.keeps
  have hln := h2.ok.len
  have hbl := h2.bal
  have hst : ∀ {i v : Nat}, i < N → 0 < lf.getD i 0 → v ∈ (srch es fl N i).ord → 0 ≤ lf.getD v 0 := by
    intro i v a b c
    have := rt_stop h1 (i := i) (v := v) a (by rw [← hlf]; exact b) (by rw [← hfl]; exact c)
    rw [hlf]; exact this
  rw [← hfl] at hkp hbl ⊢
  rw [← hlf] at hln hbl hz ⊢
  have htot : sm N (fun v => lf.getD v 0) = 0 := by
    have e1 := even_total hE hev
    have e2 := out_all hE fl
    have e3 : sm N (fun i => sup.getD i 0) = sm N (fun v => outOf es fl v + lf.getD v 0) := sm_congr fun v hv => (hbl v hv).symm
    rw [sm_add, e2, e1] at e3
    omega
  obtain ⟨k, hk, hkp2⟩ : ∃ k, k < N ∧ 0 < lf.getD k 0 := by
    refine Classical.byContradiction fun hno => ?_
    have hle : ∀ v, v < N → lf.getD v 0 ≤ 0 := fun v hv => by
      rcases Int.lt_or_le 0 (lf.getD v 0) with h | h
      · exact absurd ⟨v, hv, h⟩ hno
      · exact h
    have hzz : zeroB lf = true := by
      refine zeroB_of fun v hv => ?_
      rw [hln] at hv
      have q1 := hle v hv
      rcases Int.lt_or_le (lf.getD v 0) 0 with h | h
      · have := sm_pos (g := fun v => 0 - lf.getD v 0) (n := N) (k := v) (fun i hi => by have := hle i hi; omega) hv (by omega)
        rw [sm_sub, sm_nil, htot] at this
        omega
      · omega
    rw [hzz] at hz; cases hz
  have hmem : ∀ {v : Nat}, v ∈ blkTo es N fl lf N ↔ ∃ i, i < N ∧ 0 < lf.getD i 0 ∧ v ∈ (srch es fl N i).ord := by
    intro v
    unfold blkTo
    rw [List.mem_flatMap]
    constructor
    · rintro ⟨i, hi, hv⟩
      obtain ⟨a, b⟩ := List.mem_filter.1 hi
      exact ⟨i, List.mem_range.1 a, of_decide_eq_true b, hv⟩
    · rintro ⟨i, a, b, c⟩
      exact ⟨i, List.mem_filter.2 ⟨List.mem_range.2 a, decide_eq_true b⟩, c⟩
  have hkm : k ∈ blkTo es N fl lf N := hmem.2 ⟨k, hk, hkp2, List.mem_of_getElem? (inv_srch hE hk).hd⟩
  refine ⟨fun e => (by rw [e] at hkm; cases hkm), ?_⟩
  have hcl : Closed es fl (inS (blkTo es N fl lf N)) := by
    intro v p hv hp hr
    obtain ⟨i, a, b, c⟩ := hmem.1 (of_decide_eq_true hv)
    exact decide_eq_true (hmem.2 ⟨i, a, b, srch_closed hE a c hp hr⟩)
  rw [← out_cut_eq hE hkp hcl]
  have e1 : bsum (inS (blkTo es N fl lf N)) N (fun v => sup.getD v 0) = bsum (inS (blkTo es N fl lf N)) N (outOf es fl) + bsum (inS (blkTo es N fl lf N)) N (fun v => lf.getD v 0) := by
    unfold bsum
    rw [← sm_add]
    refine sm_congr fun v hv => ?_
    by_cases hb : inS (blkTo es N fl lf N) v = true
    · rw [if_pos hb, if_pos hb, if_pos hb]; exact (hbl v hv).symm
    · rw [if_neg hb, if_neg hb, if_neg hb]; rfl
  have e2 : 0 < bsum (inS (blkTo es N fl lf N)) N (fun v => lf.getD v 0) := by
    unfold bsum
    refine sm_pos (k := k) (fun v hv => ?_) hk ?_
    · by_cases hb : inS (blkTo es N fl lf N) v = true
      · rw [if_pos hb]
        obtain ⟨i, a, b, c⟩ := hmem.1 (of_decide_eq_true hb)
        exact hst a b c
      · rw [if_neg hb]; exact Int.le_refl _
    · rw [if_pos (show inS (blkTo es N fl lf N) k = true from decide_eq_true hkm)]; exact hkp2
  rw [e1]
  omega
def outL (n : GNet) (fl : List Int) : List Int := (List.range n.nodes.length).map (outOf (eds n.pipes) fl)
def limOk (n : GNet) (fl : List Int) : Bool := (List.range n.pipes.length).all fun i => decide (-(n.pipes.getD i dP).lim ≤ fl.getD i 0 ∧ fl.getD i 0 ≤ (n.pipes.getD i dP).lim)
theorem rs_zero {n : GNet} {sup : List Int} (h : rsCode n sup = 0) : evCode n sup = 0 ∧ zeroB (rt (eds n.pipes) n.nodes.length sup).2 = true := by
  rw [rsCode] at h
  split at h
  · split at h
    · exact ⟨by assumption, by assumption⟩
    · exact absurd h (by decide)
  · exact absurd h (by assumption)
theorem rs_seven {n : GNet} {sup : List Int} (h : rsCode n sup = 7) : evCode n sup = 0 ∧ zeroB (rt (eds n.pipes) n.nodes.length sup).2 = false := by
  rw [rsCode] at h
  split at h
  · split at h
    · exact absurd h (by decide)
    · rename_i a b; exact ⟨a, by simpa using b⟩
  · rename_i a
    exfalso
    rw [evCode] at h
    split at h
    · split at h <;> exact absurd h (by decide)
    · rw [suCode] at h
      split at h
      · split at h <;> exact absurd h (by decide)
      · exact absurd h (by decide)
/-- What is routed. -/
theorem routed_law {n : GNet} {sup : List Int} (h : rsCode n sup = 0) : bkCode n sup = 4 ∧ netOk n = true ∧ supOk n.nodes.length sup = true ∧ supOk n.pipes.length (rsRes n sup) = true ∧ outL n (rsRes n sup) = sup ∧ limOk n (rsRes n sup) = true := by
  obtain ⟨h1, h2⟩ := rs_zero h
  obtain ⟨hn, hs⟩ := suCode_zero (evCode_zero h1).1
  have hE := eds_ok hn
  obtain ⟨r1, r2⟩ := rt_spec hE (supOk_all hs).1 (supOk_bnd hs)
  have hk := r2.ok.keeps
  have hel : (eds n.pipes).length = n.pipes.length := by simp [eds]
  have hfl : (rsRes n sup) = (rt (eds n.pipes) n.nodes.length sup).1 := by rw [rsRes, if_pos h]
  have hat : ∀ p, p < n.pipes.length → -(n.pipes.getD p dP).lim ≤ (rsRes n sup).getD p 0 ∧ (rsRes n sup).getD p 0 ≤ (n.pipes.getD p dP).lim ∧ (n.pipes.getD p dP).lim ≤ 30000 := by
    intro p hp
    have hx : n.pipes[p]? = some n.pipes[p] := List.getElem?_eq_getElem hp
    have e1 : n.pipes.getD p dP = n.pipes[p] := by rw [List.getD_eq_getElem?_getD, hx]; rfl
    have e2 : (eds n.pipes)[p]? = some (edOf n.pipes[p]) := by rw [eds, List.getElem?_map, hx]; rfl
    have := hk.at_ p _ e2
    have hl := hE.at_ p _ e2
    rw [e1, hfl]
    exact ⟨this.1, this.2, hl.2.2.2.2⟩
  refine ⟨?_, hn, hs, ?_, ?_, ?_⟩
  · rw [bkCode, if_pos h1, if_pos]
    rw [bkList, blkTo]
    have : (List.range n.nodes.length).filter (fun i => decide (0 < (rt (eds n.pipes) n.nodes.length sup).2.getD i 0)) = [] := by
      rw [List.filter_eq_nil_iff]
      intro i _
      rw [zeroB_get h2]; simp
    rw [this]; rfl
  · rw [supOk, Bool.and_eq_true]
    have hl : (rsRes n sup).length = n.pipes.length := by rw [hfl, hk.len, hel]
    refine ⟨decide_eq_true hl, List.all_eq_true.2 fun z hz => ?_⟩
    obtain ⟨p, hp⟩ := List.getElem?_of_mem hz
    have := hat p (by rw [← hl]; exact (List.getElem?_eq_some_iff.1 hp).1)
    have e : (rsRes n sup).getD p 0 = z := by rw [List.getD_eq_getElem?_getD, hp]; rfl
    rw [e] at this
    have q : -(n.pipes.getD p dP).lim ≤ z ∧ z ≤ (n.pipes.getD p dP).lim ∧ (n.pipes.getD p dP).lim ≤ 30000 := this
    unfold inB; simp; omega
  · have hsl := (supOk_all hs).1
    refine List.ext_getElem? fun u => ?_
    unfold outL
    rw [List.getElem?_map]
    by_cases hu : u < n.nodes.length
    · rw [List.getElem?_range hu]
      have := r2.bal u hu
      rw [zeroB_get h2] at this
      rw [hfl, List.getElem?_eq_getElem (show u < sup.length by omega)]
      show some _ = some _
      congr 1
      rw [List.getD_eq_getElem?_getD, List.getElem?_eq_getElem (show u < sup.length by omega)] at this
      have q : outOf (eds n.pipes) (rt (eds n.pipes) n.nodes.length sup).1 u + 0 = sup[u] := this
      omega
    · rw [List.getElem?_eq_none (by simp; omega), List.getElem?_eq_none (by omega)]; rfl
  · rw [limOk, List.all_eq_true]
    intro p hp
    have := hat p (List.mem_range.1 hp)
    exact decide_eq_true ⟨this.1, this.2.1⟩
/-- What blocks. -/
theorem blocked_law {n : GNet} {sup : List Int} (h : rsCode n sup = 7) : bkCode n sup = 0 ∧ caCode n (bkRes n sup) = 0 ∧ capVal n (bkRes n sup) < supOf sup (bkRes n sup) ∧ supOk n.nodes.length sup = true ∧ (∀ v ∈ bkRes n sup, 0 ≤ v ∧ v < n.nodes.length) := by
  obtain ⟨h1, h2⟩ := rs_seven h
  obtain ⟨h3, h4⟩ := evCode_zero h1
  obtain ⟨hn, hs⟩ := suCode_zero h3
  have hE := eds_ok hn
  obtain ⟨b1, b2⟩ := blk_law hE (supOk_all hs).1 (supOk_bnd hs) h4 h2
  have e1 : bkList n sup = blkTo (eds n.pipes) n.nodes.length (rt (eds n.pipes) n.nodes.length sup).1 (rt (eds n.pipes) n.nodes.length sup).2 n.nodes.length := rfl
  rw [← e1] at b1 b2
  have hb : bkCode n sup = 0 := by rw [bkCode, if_pos h1, if_neg b1]
  have e2 : bkRes n sup = casts (memTo (bkList n sup) n.nodes.length) := by rw [bkRes, if_pos hb]
  have hc : caCode n (bkRes n sup) = 0 := by rw [e2]; exact memTo_code hn _
  refine ⟨hb, hc, ?_, hs, ?_⟩
  · rw [capVal, if_pos hc, e2, cap_cut hn, supOf, casts, List.map_map]
    have : ((memTo (bkList n sup) n.nodes.length).map ((fun v : Int => sup.getD v.toNat 0) ∘ fun (x : Nat) => (x : Int))) = (memTo (bkList n sup) n.nodes.length).map (fun v => sup.getD v 0) := List.map_congr_left fun v _ => by simp
    rw [this, memTo_sum]
    exact b2
  · intro v hv
    rw [e2] at hv
    obtain ⟨u, hu, e⟩ := mem_casts'.1 hv
    have := (memTo_mem.1 hu).1
    omega
end Go.Proofs.Ytbbecboihmmllaa
/-
  Plain functions: flow lists, transits, supplies of flows, pipes over their limits. No program here.
-/
namespace Go.Proofs.Ytbbecboihmmllaa

def flOk (n : GNet) (fl : List Int) : Bool := supOk n.pipes.length fl
def flCode (n : GNet) (fl : List Int) : Int := if netOk n then (if flOk n fl then 0 else 3) else 1
theorem flCode_zero {n : GNet} {fl : List Int} (h : flCode n fl = 0) : netOk n = true ∧ flOk n fl = true := by
  rw [flCode] at h
  split at h
  · split at h
    · exact ⟨by assumption, by assumption⟩
    · exact absurd h (by decide)
  · exact absurd h (by decide)
theorem flOk_all {n : GNet} {fl : List Int} (h : flOk n fl = true) : fl.length = n.pipes.length ∧ ∀ z ∈ fl, -30000 ≤ z ∧ z ≤ 30000 := supOk_all h
theorem flOk_get {n : GNet} {fl : List Int} (h : flOk n fl = true) (k : Nat) : -30000 ≤ fl.getD k 0 ∧ fl.getD k 0 ≤ 30000 := by
  rcases getD_mem_or (l := fl) k with e | e
  · rw [e]; omega
  · exact (flOk_all h).2 _ e
/-- What a pipe brings into a node. -/
def trTerm (p : GPipe) (x v : Int) : Int := (if p.dst = v then max 0 x else 0) + (if p.src = v then max 0 (-x) else 0)
def trTo (n : GNet) (fl : List Int) (v : Int) (k : Nat) : Int := sm k fun i => trTerm (n.pipes.getD i dP) (fl.getD i 0) v
theorem trTo_succ (n : GNet) (fl : List Int) (v : Int) (k : Nat) : trTo n fl v (k + 1) = trTo n fl v k + trTerm (n.pipes.getD k dP) (fl.getD k 0) v := sm_succ _ _
theorem trTerm_bnd (p : GPipe) {x : Int} (v : Int) (h : -30000 ≤ x ∧ x ≤ 30000) : 0 ≤ trTerm p x v ∧ trTerm p x v ≤ 60000 := by
  unfold trTerm
  split <;> split <;> omega
theorem trTo_bnd {n : GNet} {fl : List Int} (h : flOk n fl = true) (v : Int) (k : Nat) : 0 ≤ trTo n fl v k ∧ trTo n fl v k ≤ 60000 * (k : Int) := by
  induction k with
  | zero => simp [trTo, sm]
  | succ k ih =>
    rw [trTo_succ]
    have := trTerm_bnd (n.pipes.getD k dP) v (flOk_get h k)
    omega
def toCode (n : GNet) (fl : List Int) (v : Int) : Int := if flCode n fl = 0 then (if inN n v then 0 else 2) else flCode n fl
def toVal (n : GNet) (fl : List Int) (v : Int) : Int := if toCode n fl v = 0 then trTo n fl v n.pipes.length else 0
theorem toCode_zero {n : GNet} {fl : List Int} {v : Int} (h : toCode n fl v = 0) : flCode n fl = 0 ∧ inN n v = true := by
  rw [toCode] at h
  split at h
  · split at h
    · exact ⟨by assumption, by assumption⟩
    · exact absurd h (by decide)
  · exact absurd h (by assumption)
/- What flows out of the nodes, pipe by pipe. -/
def outK (n : GNet) (fl : List Int) (k v : Nat) : Int := sm k fun p => (if ((eds n.pipes).getD p dE).f = v then fl.getD p 0 else 0) - (if ((eds n.pipes).getD p dE).t = v then fl.getD p 0 else 0)
def outTo (n : GNet) (fl : List Int) (k : Nat) : List Int := (List.range n.nodes.length).map (outK n fl k)
theorem outTo_len (n : GNet) (fl : List Int) (k : Nat) : (outTo n fl k).length = n.nodes.length := by simp [outTo]
theorem outTo_zero (n : GNet) (fl : List Int) : outTo n fl 0 = List.replicate n.nodes.length 0 := by
  refine List.ext_getElem? fun u => ?_
  rw [outTo, List.getElem?_map, List.getElem?_replicate]
  by_cases hu : u < n.nodes.length
  · rw [List.getElem?_range hu, if_pos hu]; rfl
  · rw [List.getElem?_eq_none (by simp; omega), if_neg hu]; rfl
theorem outTo_get {n : GNet} {fl : List Int} {k v : Nat} (hv : v < n.nodes.length) : (outTo n fl k)[v]? = some (outK n fl k v) := by
  rw [outTo, List.getElem?_map, List.getElem?_range hv]; rfl
theorem outTo_full {n : GNet} (fl : List Int) : outTo n fl n.pipes.length = outL n fl := by
  unfold outTo outL
  refine List.map_congr_left fun v _ => ?_
  have : (eds n.pipes).length = n.pipes.length := by simp [eds]
  unfold outK outOf sm
  rw [this]
theorem outK_bnd {n : GNet} {fl : List Int} (h : flOk n fl = true) (k v : Nat) : -(60000 * (k : Int)) ≤ outK n fl k v ∧ outK n fl k v ≤ 60000 * k := by
  induction k with
  | zero => simp [outK, sm]
  | succ k ih =>
    have e : outK n fl (k + 1) v = outK n fl k v + ((if ((eds n.pipes).getD k dE).f = v then fl.getD k 0 else 0) - (if ((eds n.pipes).getD k dE).t = v then fl.getD k 0 else 0)) := sm_succ _ _
    have := flOk_get h k
    rw [e]
    split <;> split <;> omega
theorem outTo_step {n : GNet} {fl : List Int} {k : Nat} {p : GPipe} {x : Int} (hn : netOk n = true) (hp : n.pipes[k]? = some p) (hx : fl[k]? = some x) :
    outTo n fl (k + 1) = ((outTo n fl k).set p.src.toNat (outK n fl k p.src.toNat + x)).set p.dst.toNat (outK n fl k p.dst.toNat - x) := by
  have hE := eds_ok hn
  have e2 : (eds n.pipes)[k]? = some (edOf p) := by rw [eds, List.getElem?_map, hp]; rfl
  have e1 : (eds n.pipes).getD k dE = edOf p := by rw [List.getD_eq_getElem?_getD, e2]; rfl
  have ho := hE.at_ k _ e2
  have h1 : p.src.toNat < n.nodes.length := ho.1
  have h2 : p.dst.toNat < n.nodes.length := ho.2.1
  have h3 : p.src.toNat ≠ p.dst.toNat := ho.2.2.1
  have ex : fl.getD k 0 = x := by rw [List.getD_eq_getElem?_getD, hx]; rfl
  refine List.ext_getElem? fun v => ?_
  by_cases hv : v < n.nodes.length
  · rw [outTo_get hv]
    have e : outK n fl (k + 1) v = outK n fl k v + ((if p.src.toNat = v then x else 0) - (if p.dst.toNat = v then x else 0)) := by
      have := sm_succ k fun p => (if ((eds n.pipes).getD p dE).f = v then fl.getD p 0 else 0) - (if ((eds n.pipes).getD p dE).t = v then fl.getD p 0 else 0)
      rw [e1, ex] at this
      exact this
    rw [e]
    by_cases q2 : p.dst.toNat = v
    · have q1 : ¬ p.src.toNat = v := by omega
      rw [q2, List.getElem?_set_self (by rw [List.length_set, outTo_len]; exact hv)]
      simp only [q1, if_true, if_false]
      congr 1; omega
    · rw [List.getElem?_set_ne q2]
      by_cases q1 : p.src.toNat = v
      · rw [q1, List.getElem?_set_self (by rw [outTo_len]; exact hv)]
        simp only [q2, if_true, if_false]
        congr 1; omega
      · rw [List.getElem?_set_ne q1, outTo_get hv]
        simp only [q1, q2, if_false]
        congr 1; omega
  · rw [List.getElem?_eq_none (by rw [outTo_len]; omega), List.getElem?_eq_none (by simp [outTo_len]; omega)]
def soCode (n : GNet) (fl : List Int) : Int := if flCode n fl = 0 then (if supOk n.nodes.length (outL n fl) then 0 else 2) else flCode n fl
def soRes (n : GNet) (fl : List Int) : List Int := if soCode n fl = 0 then outL n fl else []
theorem soCode_zero {n : GNet} {fl : List Int} (h : soCode n fl = 0) : flCode n fl = 0 ∧ supOk n.nodes.length (outL n fl) = true := by
  rw [soCode] at h
  split at h
  · split at h
    · exact ⟨by assumption, by assumption⟩
    · exact absurd h (by decide)
  · exact absurd h (by assumption)
theorem so_bad {n : GNet} {fl : List Int} (h : soCode n fl ≠ 0) : soRes n fl = [] := by rw [soRes, if_neg h]
/- Pipes over their limits. -/
def ovAt (n : GNet) (fl : List Int) (i : Nat) : Bool := !decide (-(n.pipes.getD i dP).lim ≤ fl.getD i 0 ∧ fl.getD i 0 ≤ (n.pipes.getD i dP).lim)
def ovTo (n : GNet) (fl : List Int) (k : Nat) : List Nat := (List.range k).filter (ovAt n fl)
theorem ov_yes {n : GNet} {fl : List Int} {k : Nat} (h : ovAt n fl k = true) : ovTo n fl (k + 1) = ovTo n fl k ++ [k] := by
  simp [ovTo, List.range_succ, List.filter_append, h]
theorem ov_no {n : GNet} {fl : List Int} {k : Nat} (h : ovAt n fl k = false) : ovTo n fl (k + 1) = ovTo n fl k := by
  simp [ovTo, List.range_succ, List.filter_append, h]
theorem ov_len (n : GNet) (fl : List Int) (k : Nat) : (ovTo n fl k).length ≤ k := by
  have := List.length_filter_le (ovAt n fl) (List.range k)
  simpa [ovTo] using this
def ovRes (n : GNet) (fl : List Int) : List Nat := if flCode n fl = 0 then ovTo n fl n.pipes.length else []
def klB (n : GNet) (fl : List Int) : Bool := netOk n && flOk n fl && limOk n fl
def balB (n : GNet) (fl sup : List Int) : Bool := netOk n && flOk n fl && supOk n.nodes.length sup && decide (outL n fl = sup)
theorem ov_lim {n : GNet} {fl : List Int} (h : flCode n fl = 0) : klB n fl = decide ((ovRes n fl).length = 0) := by
  obtain ⟨h1, h2⟩ := flCode_zero h
  rw [klB, h1, h2, ovRes, if_pos h, Bool.true_and, Bool.true_and, Bool.eq_iff_iff, decide_eq_true_eq, List.length_eq_zero_iff, ovTo, List.filter_eq_nil_iff, limOk, List.all_eq_true]
  constructor
  · intro q i hi
    have := of_decide_eq_true (q i hi)
    unfold ovAt
    rw [decide_eq_true this]; decide
  · intro q i hi
    have := q i hi
    unfold ovAt at this
    cases hd : decide (-(n.pipes.getD i dP).lim ≤ fl.getD i 0 ∧ fl.getD i 0 ≤ (n.pipes.getD i dP).lim) with
    | true => rfl
    | false => rw [hd] at this; exact absurd rfl this
def negL (fl : List Int) : List Int := fl.map fun x => -x
theorem neg_get (fl : List Int) (k : Nat) : (negL fl).getD k 0 = -(fl.getD k 0) := by
  rw [List.getD_eq_getElem?_getD, negL, List.getElem?_map, List.getD_eq_getElem?_getD]
  cases fl[k]? <;> rfl
theorem neg_ok {n : GNet} {fl : List Int} (h : flOk n fl = true) : flOk n (negL fl) = true := by
  obtain ⟨h1, h2⟩ := flOk_all h
  rw [flOk, supOk, Bool.and_eq_true]
  refine ⟨decide_eq_true (by simp [negL, h1]), List.all_eq_true.2 fun z hz => ?_⟩
  obtain ⟨x, hx, rfl⟩ := List.mem_map.1 hz
  have := h2 x hx
  unfold inB; simp; omega
theorem transit_law {n : GNet} {fl : List Int} {v : Int} (h : toCode n fl v = 0) : toCode n (negL fl) v = 0 ∧ 0 ≤ v ∧ v < n.nodes.length ∧ flCode n fl = 0 ∧ (soCode n fl = 0 → (soRes n fl)[v.toNat]? = some (toVal n (negL fl) v - toVal n fl v)) := by
  obtain ⟨h1, h2⟩ := toCode_zero h
  obtain ⟨h3, h4⟩ := flCode_zero h1
  have hv : 0 ≤ v ∧ v < n.nodes.length := by simp [inN, inB] at h2; omega
  have hm : flCode n (negL fl) = 0 := by rw [flCode, if_pos h3, if_pos (neg_ok h4)]
  have ht : toCode n (negL fl) v = 0 := by rw [toCode, if_pos hm, if_pos h2]
  refine ⟨ht, hv.1, hv.2, h1, fun hs => ?_⟩
  rw [soRes, if_pos hs, ← outTo_full, outTo_get (by omega), toVal, if_pos ht, toVal, if_pos h]
  congr 1
  unfold outK trTo
  rw [← sm_sub]
  refine sm_congr fun i hi => ?_
  have hx : n.pipes[i]? = some n.pipes[i] := List.getElem?_eq_getElem hi
  have e1 : n.pipes.getD i dP = n.pipes[i] := by rw [List.getD_eq_getElem?_getD, hx]; rfl
  have e2 : (eds n.pipes).getD i dE = edOf n.pipes[i] := by rw [List.getD_eq_getElem?_getD, eds, List.getElem?_map, hx]; rfl
  have ho := pipeOk_all ((netOk_all h3).2 i _ hx)
  have b1 := ho.1.1
  have b2 := ho.2.1.1
  rw [e1, e2, neg_get]
  unfold trTerm edOf
  simp only
  by_cases q1 : n.pipes[i].src = v <;> by_cases q2 : n.pipes[i].dst = v
  · rw [if_pos (by omega), if_pos (by omega), if_pos q1, if_pos q1, if_pos q2, if_pos q2]; omega
  · rw [if_pos (by omega), if_neg (by omega), if_pos q1, if_pos q1, if_neg q2, if_neg q2]; omega
  · rw [if_neg (by omega), if_pos (by omega), if_neg q1, if_neg q1, if_pos q2, if_pos q2]; omega
  · rw [if_neg (by omega), if_neg (by omega), if_neg q1, if_neg q1, if_neg q2, if_neg q2]; omega
def negTo (fl : List Int) (k : Nat) : List Int := negL (fl.take k)
theorem negTo_step {fl : List Int} {k : Nat} {x : Int} (h : fl[k]? = some x) : negTo fl (k + 1) = negTo fl k ++ [-x] := by
  rw [negTo, List.take_add_one, h]
  simp [negTo, negL]
theorem negTo_full {fl : List Int} {k : Nat} (h : fl.length = k) : negTo fl k = negL fl := by
  rw [negTo, List.take_of_length_le (by omega)]
theorem toVal_bnd (n : GNet) (fl : List Int) (v : Int) : 0 ≤ toVal n fl v ∧ toVal n fl v ≤ 60000 * (n.pipes.length : Int) := by
  rw [toVal]
  split
  · rename_i h
    exact trTo_bnd (flCode_zero (toCode_zero h).1).2 v _
  · omega
theorem supOf_step {s l : List Int} {k : Nat} {z x : Int} (h : l[k]? = some z) (hx : s[z.toNat]? = some x) : supOf s (l.take (k + 1)) = supOf s (l.take k) + x := by
  unfold supOf
  rw [List.take_add_one, h]
  have e : s.getD z.toNat 0 = x := by rw [List.getD_eq_getElem?_getD, hx]; rfl
  rw [List.map_append, List.sum_append]
  simp [-List.getD_eq_getElem?_getD, e]
theorem supOf_bnd {s l : List Int} (hs : ∀ z ∈ s, -30000 ≤ z ∧ z ≤ 30000) (k : Nat) : -(30000 * (k : Int)) ≤ supOf s (l.take k) ∧ supOf s (l.take k) ≤ 30000 * k := by
  induction k with
  | zero => simp [supOf]
  | succ k ih =>
    by_cases hk : k < l.length
    · have h : l[k]? = some l[k] := List.getElem?_eq_getElem hk
      have e : supOf s (l.take (k + 1)) = supOf s (l.take k) + s.getD (l[k]).toNat 0 := by
        unfold supOf
        rw [List.take_add_one, h, List.map_append, List.sum_append]
        simp [-List.getD_eq_getElem?_getD]
      have hb : -30000 ≤ s.getD (l[k]).toNat 0 ∧ s.getD (l[k]).toNat 0 ≤ 30000 := by
        rcases getD_mem_or (l := s) (l[k]).toNat with e | e
        · rw [e]; omega
        · exact hs _ e
      rw [e]; omega
    · have e : l.take (k + 1) = l.take k := by rw [List.take_of_length_le (by omega), List.take_of_length_le (by omega)]
      rw [e]; omega
theorem routed_bal {n : GNet} {sup : List Int} (h : rsCode n sup = 0) : bkCode n sup = 4 ∧ balB n (rsRes n sup) sup = true ∧ klB n (rsRes n sup) = true := by
  obtain ⟨h1, h2, h3, h4, h5, h6⟩ := routed_law h
  refine ⟨h1, ?_, ?_⟩
  · rw [balB, h2, show flOk n (rsRes n sup) = true from h4, h3, decide_eq_true h5]; rfl
  · rw [klB, h2, show flOk n (rsRes n sup) = true from h4, h6]; rfl
end Go.Proofs.Ytbbecboihmmllaa
/-
  Plain functions: buffers and an hour. No program here.
-/
namespace Go.Proofs.Ytbbecboihmmllaa

structure GBuf where
  lo : List Int
  hi : List Int
  nw : List Int
def bfAt (b : GBuf) (i : Nat) : Bool := decide (0 ≤ b.lo.getD i 0) && decide (b.lo.getD i 0 ≤ b.nw.getD i 0) && decide (b.nw.getD i 0 ≤ b.hi.getD i 0) && decide (b.hi.getD i 0 ≤ 1000000000)
def bfLen (N : Nat) (b : GBuf) : Bool := decide (b.lo.length = N) && decide (b.hi.length = N) && decide (b.nw.length = N)
def bfOk (N : Nat) (b : GBuf) : Bool := bfLen N b && (List.range N).all (bfAt b)
theorem bfLen_all {N : Nat} {b : GBuf} (h : bfLen N b = true) : b.lo.length = N ∧ b.hi.length = N ∧ b.nw.length = N := by
  simpa [bfLen, and_assoc] using h
theorem bfAt_all {b : GBuf} {i : Nat} (h : bfAt b i = true) : 0 ≤ b.lo.getD i 0 ∧ b.lo.getD i 0 ≤ b.nw.getD i 0 ∧ b.nw.getD i 0 ≤ b.hi.getD i 0 ∧ b.hi.getD i 0 ≤ 1000000000 := by
  simpa [bfAt, and_assoc] using h
theorem bfOk_all {N : Nat} {b : GBuf} (h : bfOk N b = true) : (b.lo.length = N ∧ b.hi.length = N ∧ b.nw.length = N) ∧ ∀ i, i < N → 0 ≤ b.lo.getD i 0 ∧ b.lo.getD i 0 ≤ b.nw.getD i 0 ∧ b.nw.getD i 0 ≤ b.hi.getD i 0 ∧ b.hi.getD i 0 ≤ 1000000000 := by
  rw [bfOk, Bool.and_eq_true] at h
  exact ⟨bfLen_all h.1, fun i hi => bfAt_all (List.all_eq_true.1 h.2 i (List.mem_range.2 hi))⟩
def bcCode (n : GNet) (b : GBuf) : Int := if netOk n then (if bfOk n.nodes.length b then 0 else 3) else 1
def hrOk (n : GNet) (fl sup : List Int) : Bool := flOk n fl && supOk n.nodes.length sup
def hrCode (n : GNet) (b : GBuf) (fl sup : List Int) : Int := if bcCode n b = 0 then (if hrOk n fl sup then 0 else 2) else bcCode n b
theorem bcCode_zero {n : GNet} {b : GBuf} (h : bcCode n b = 0) : netOk n = true ∧ bfOk n.nodes.length b = true := by
  rw [bcCode] at h
  split at h
  · split at h
    · exact ⟨by assumption, by assumption⟩
    · exact absurd h (by decide)
  · exact absurd h (by decide)
theorem hrCode_zero {n : GNet} {b : GBuf} {fl sup : List Int} (h : hrCode n b fl sup = 0) : bcCode n b = 0 ∧ flOk n fl = true ∧ supOk n.nodes.length sup = true := by
  rw [hrCode] at h
  split at h
  · split at h
    · rename_i a b
      rw [hrOk, Bool.and_eq_true] at b
      exact ⟨a, b⟩
    · exact absurd h (by decide)
  · exact absurd h (by assumption)
def nxAt (n : GNet) (b : GBuf) (fl sup : List Int) (i : Nat) : Int := b.nw.getD i 0 + sup.getD i 0 - (outL n fl).getD i 0
def nxL (n : GNet) (b : GBuf) (fl sup : List Int) : List Int := (List.range n.nodes.length).map (nxAt n b fl sup)
def nxB (n : GNet) (b : GBuf) (fl sup : List Int) : GBuf := ⟨b.lo, b.hi, nxL n b fl sup⟩
def hsOk (n : GNet) (b : GBuf) (fl sup : List Int) : Bool := limOk n fl && bfOk n.nodes.length (nxB n b fl sup)
def shCode (n : GNet) (b : GBuf) (fl sup : List Int) : Int := if hrCode n b fl sup = 0 then (if hsOk n b fl sup then 0 else 7) else hrCode n b fl sup
def shRes (n : GNet) (b : GBuf) (fl sup : List Int) : GBuf := if shCode n b fl sup = 0 then nxB n b fl sup else ⟨[], [], []⟩
def ftAt (n : GNet) (b : GBuf) (fl sup : List Int) (i : Nat) : Bool := !inB (b.lo.getD i 0) (nxAt n b fl sup i) (b.hi.getD i 0)
def ftIx (n : GNet) (b : GBuf) (fl sup : List Int) : Int := match (List.range n.nodes.length).find? (ftAt n b fl sup) with
  | some i => i
  | none => -1
def ftVal (n : GNet) (b : GBuf) (fl sup : List Int) : Int := if hrCode n b fl sup = 0 then ftIx n b fl sup else 0
def ibB (n : GNet) (b : GBuf) : Bool := netOk n && bfOk n.nodes.length b
def coVal (n : GNet) (b : GBuf) : Int := if bcCode n b = 0 then b.nw.sum else 0
theorem outL_len (n : GNet) (fl : List Int) : (outL n fl).length = n.nodes.length := by simp [outL]
theorem outL_get {n : GNet} {fl : List Int} {i : Nat} (h : i < n.nodes.length) : (outL n fl).getD i 0 = outOf (eds n.pipes) fl i := by
  rw [List.getD_eq_getElem?_getD, outL, List.getElem?_map, List.getElem?_range h]; rfl
theorem nxL_len (n : GNet) (b : GBuf) (fl sup : List Int) : (nxL n b fl sup).length = n.nodes.length := by simp [nxL]
theorem nxL_get {n : GNet} {b : GBuf} {fl sup : List Int} {i : Nat} (h : i < n.nodes.length) : (nxL n b fl sup)[i]? = some (nxAt n b fl sup i) := by
  rw [nxL, List.getElem?_map, List.getElem?_range h]; rfl
theorem sum_sm (l : List Int) : l.sum = sm l.length fun i => l.getD i 0 := by
  have := sm_list (0 : Int) l (fun x => x)
  simpa using this
theorem sm_full {l : List Int} {N : Nat} (h : l.length = N) : l.sum = sm N fun i => l.getD i 0 := by rw [sum_sm, h]
theorem shCode_zero {n : GNet} {b : GBuf} {fl sup : List Int} (h : shCode n b fl sup = 0) : hrCode n b fl sup = 0 ∧ limOk n fl = true ∧ bfOk n.nodes.length (nxB n b fl sup) = true := by
  rw [shCode] at h
  split at h
  · split at h
    · rename_i a b
      rw [hsOk, Bool.and_eq_true] at b
      exact ⟨a, b⟩
    · exact absurd h (by decide)
  · exact absurd h (by assumption)
theorem hour_bad {n : GNet} {b : GBuf} {fl sup : List Int} (h : shCode n b fl sup = 7) : 0 ≤ ftVal n b fl sup ∨ klB n fl = false := by
  have hh : hrCode n b fl sup = 0 := by
    rw [shCode] at h
    split at h
    · assumption
    · exfalso
      rw [hrCode] at h
      split at h
      · split at h <;> exact absurd h (by decide)
      · rw [bcCode] at h
        split at h
        · split at h <;> exact absurd h (by decide)
        · exact absurd h (by decide)
  obtain ⟨h1, h2, h3⟩ := hrCode_zero hh
  obtain ⟨h4, h5⟩ := bcCode_zero h1
  obtain ⟨h6, h7⟩ := bfOk_all h5
  have hs : hsOk n b fl sup = false := by
    cases hs : hsOk n b fl sup with
    | false => rfl
    | true => rw [shCode, if_pos hh, if_pos hs] at h; exact absurd h (by decide)
  cases hl : limOk n fl with
  | false => right; rw [klB, hl]; simp
  | true =>
    left
    rw [hsOk, hl, Bool.true_and] at hs
    rw [ftVal, if_pos hh, ftIx]
    cases hf : (List.range n.nodes.length).find? (ftAt n b fl sup) with
    | some i => show (0 : Int) ≤ (i : Int); omega
    | none =>
      exfalso
      have hno := List.find?_eq_none.1 hf
      have : bfOk n.nodes.length (nxB n b fl sup) = true := by
        rw [bfOk, Bool.and_eq_true]
        refine ⟨by simp [bfLen, nxB, nxL_len, h6.1, h6.2.1], List.all_eq_true.2 fun i hi => ?_⟩
        have q1 := hno i hi
        have q2 := h7 i (List.mem_range.1 hi)
        have q3 : inB (b.lo.getD i 0) (nxAt n b fl sup i) (b.hi.getD i 0) = true := by
          cases hq : inB (b.lo.getD i 0) (nxAt n b fl sup i) (b.hi.getD i 0) with
          | true => rfl
          | false => rw [ftAt, hq] at q1; exact absurd rfl q1
        have q4 := inB_le q3
        have q5 : (nxL n b fl sup).getD i 0 = nxAt n b fl sup i := by rw [List.getD_eq_getElem?_getD, nxL_get (List.mem_range.1 hi)]; rfl
        unfold bfAt nxB
        simp only [q5]
        simp [-List.getD_eq_getElem?_getD]
        omega
      rw [this] at hs
      cases hs
theorem hour_law {n : GNet} {b : GBuf} {fl sup : List Int} (h : shCode n b fl sup = 0) : bcCode n b = 0 ∧ bcCode n (shRes n b fl sup) = 0 ∧ coVal n (shRes n b fl sup) - coVal n b = sup.sum ∧ ibB n (shRes n b fl sup) = true ∧ ftVal n b fl sup = -1 ∧ (∀ z ∈ sup, -1000000000000 ≤ z ∧ z ≤ 1000000000000) := by
  obtain ⟨h1, h2, h3⟩ := shCode_zero h
  obtain ⟨h4, h5, h6⟩ := hrCode_zero h1
  obtain ⟨h7, h8⟩ := bcCode_zero h4
  obtain ⟨h9, h10⟩ := bfOk_all h8
  have hE := eds_ok h7
  have e : shRes n b fl sup = nxB n b fl sup := by rw [shRes, if_pos h]
  have hb : bcCode n (nxB n b fl sup) = 0 := by rw [bcCode, if_pos h7, if_pos h3]
  rw [e]
  refine ⟨h4, hb, ?_, ?_, ?_, fun z hz => ?_⟩
  · rw [coVal, if_pos hb, coVal, if_pos h4]
    show (nxL n b fl sup).sum - b.nw.sum = _
    rw [sm_full (nxL_len n b fl sup), sm_full h9.2.2, sm_full (supOk_all h6).1]
    have e1 : sm n.nodes.length (fun i => (nxL n b fl sup).getD i 0) = sm n.nodes.length (fun i => (b.nw.getD i 0 + sup.getD i 0) - outOf (eds n.pipes) fl i) := by
      refine sm_congr fun i hi => ?_
      rw [List.getD_eq_getElem?_getD, nxL_get hi]
      show nxAt n b fl sup i = _
      rw [nxAt, outL_get hi]
    rw [e1, sm_sub, sm_add, out_all hE fl]
    omega
  · rw [ibB, h7, h3]; rfl
  · rw [ftVal, if_pos h1, ftIx]
    have : (List.range n.nodes.length).find? (ftAt n b fl sup) = none := by
      rw [List.find?_eq_none]
      intro i hi
      have q1 := (bfOk_all h3).2 i (List.mem_range.1 hi)
      have q5 : (nxL n b fl sup).getD i 0 = nxAt n b fl sup i := by rw [List.getD_eq_getElem?_getD, nxL_get (List.mem_range.1 hi)]; rfl
      have q2 : b.lo.getD i 0 ≤ (nxL n b fl sup).getD i 0 ∧ (nxL n b fl sup).getD i 0 ≤ b.hi.getD i 0 := ⟨q1.2.1, q1.2.2.1⟩
      rw [q5] at q2
      unfold ftAt inB
      simp [-List.getD_eq_getElem?_getD]
      omega
    rw [this]
  · have := (supOk_all h6).2 z hz; omega
end Go.Proofs.Ytbbecboihmmllaa
