/-
  Plain laws of cuts: what flows out of a set that no room leads out of; the full flow; routing. No program here.
-/
import Derived.Test.YtbckjlejkedonaaCutM
import Derived.Test.YtbckjlejkedonaaPlain5
namespace Go.Proofs.Ytbckjlejkedonaa

def dP : GPipe := ⟨0, 0, 0, 0, 0⟩
def sm (n : Nat) (g : Nat → Int) : Int := ((List.range n).map g).sum
theorem sm_zero (g : Nat → Int) : sm 0 g = 0 := rfl
theorem sm_succ (n : Nat) (g : Nat → Int) : sm (n + 1) g = sm n g + g n := by
  unfold sm
  rw [List.range_succ, List.map_append, List.sum_append]
  simp
theorem sm_congr {n : Nat} {g h : Nat → Int} (e : ∀ i, i < n → g i = h i) : sm n g = sm n h := by
  unfold sm
  rw [List.map_congr_left fun i hi => e i (List.mem_range.1 hi)]
theorem sm_add (n : Nat) (g h : Nat → Int) : sm n (fun i => g i + h i) = sm n g + sm n h := by
  induction n with
  | zero => rfl
  | succ n ih => rw [sm_succ, sm_succ, sm_succ, ih]; omega
theorem sm_sub (n : Nat) (g h : Nat → Int) : sm n (fun i => g i - h i) = sm n g - sm n h := by
  induction n with
  | zero => rfl
  | succ n ih => rw [sm_succ, sm_succ, sm_succ, ih]; omega
theorem sm_le {n : Nat} {g h : Nat → Int} (e : ∀ i, i < n → g i ≤ h i) : sm n g ≤ sm n h := by
  induction n with
  | zero => exact Int.le_refl _
  | succ n ih =>
    rw [sm_succ, sm_succ]
    have h1 := ih fun i hi => e i (by omega)
    have h2 := e n (by omega)
    omega
theorem sm_nil (n : Nat) : sm n (fun _ => 0) = 0 := by
  induction n with
  | zero => rfl
  | succ n ih => rw [sm_succ, ih]; rfl
theorem sm_swap (n m : Nat) (g : Nat → Nat → Int) : sm n (fun i => sm m (fun j => g i j)) = sm m (fun j => sm n (fun i => g i j)) := by
  induction n with
  | zero => exact (sm_nil m).symm
  | succ n ih =>
    rw [sm_succ, ih, ← sm_add]
    exact sm_congr fun j _ => (sm_succ n (fun i => g i j)).symm
theorem sm_pick {n f : Nat} (hf : f < n) (g : Nat → Int) : sm n (fun v => if f = v then g v else 0) = g f := by
  induction n with
  | zero => omega
  | succ n ih =>
    rw [sm_succ]
    by_cases e : f = n
    · subst e
      have : sm f (fun v => if f = v then g v else 0) = 0 := by
        exact (sm_congr (fun i hi => by rw [if_neg (show ¬ f = i by omega)])).trans (sm_nil f)
      rw [this, if_pos rfl]; omega
    · rw [ih (by omega), if_neg e]; omega
theorem sm_list {α : Type} (d : α) (l : List α) (g : α → Int) : (l.map g).sum = sm l.length (fun i => g (l.getD i d)) := by
  induction l with
  | nil => rfl
  | cons a l ih =>
    have e : ∀ (n : Nat) (h : Nat → Int), sm (n + 1) h = h 0 + sm n (fun i => h (i + 1)) := by
      intro n h
      induction n with
      | zero => simp [sm]
      | succ n ihn => rw [sm_succ, ihn, sm_succ]; omega
    rw [List.map_cons, List.sum_cons, ih, List.length_cons, e]
    rfl
def bsum (b : Nat → Bool) (N : Nat) (g : Nat → Int) : Int := sm N (fun v => if b v = true then g v else 0)
def cutE (b : Nat → Bool) (e : Ed) : Int := if (b e.f != b e.t) = true then e.lim else 0
def cutV (es : List Ed) (b : Nat → Bool) : Int := sm es.length (fun p => cutE b (es.getD p dE))
theorem ed_at {es : List Ed} {p : Nat} (hp : p < es.length) : es[p]? = some (es.getD p dE) := by
  rw [List.getD_eq_getElem?_getD, List.getElem?_eq_getElem hp]; rfl
/-- What flows out of a set. -/
theorem out_set {es : List Ed} {N : Nat} (hE : EsOk es N) (fl : List Int) (b : Nat → Bool) :
    bsum b N (outOf es fl) = sm es.length (fun p => (if b (es.getD p dE).f = true then fl.getD p 0 else 0) - (if b (es.getD p dE).t = true then fl.getD p 0 else 0)) := by
  have e1 : bsum b N (outOf es fl) = sm N (fun v => sm es.length (fun p => (if (es.getD p dE).f = v then (if b v = true then fl.getD p 0 else 0) else 0) - (if (es.getD p dE).t = v then (if b v = true then fl.getD p 0 else 0) else 0))) := by
    unfold bsum
    refine sm_congr fun v _ => ?_
    by_cases hb : b v = true
    · rw [if_pos hb]
      refine sm_congr fun p _ => ?_
      simp [hb]
    · rw [if_neg hb, ← sm_nil es.length]
      refine sm_congr fun p _ => ?_
      simp [hb]
  rw [e1, sm_swap]
  refine sm_congr fun p hp => ?_
  obtain ⟨h1, h2, _⟩ := hE.at_ p _ (ed_at hp)
  rw [sm_sub, sm_pick h1 (fun v => if b v = true then fl.getD p 0 else 0), sm_pick h2 (fun v => if b v = true then fl.getD p 0 else 0)]
theorem out_all {es : List Ed} {N : Nat} (hE : EsOk es N) (fl : List Int) : sm N (outOf es fl) = 0 := by
  have h := out_set hE fl (fun _ => true)
  unfold bsum at h
  simp only [if_true] at h
  rw [h, ← sm_nil es.length]
  exact sm_congr fun p _ => by simp
theorem out_cut_le {es : List Ed} {N : Nat} (hE : EsOk es N) {fl : List Int} (hk : Keeps es fl) (b : Nat → Bool) : bsum b N (outOf es fl) ≤ cutV es b := by
  rw [out_set hE]
  refine sm_le fun p hp => ?_
  have h := hk.at_ p _ (ed_at hp)
  have hl := hE.at_ p _ (ed_at hp)
  unfold cutE
  cases b (es.getD p dE).f <;> cases b (es.getD p dE).t <;> simp [-List.getD_eq_getElem?_getD] <;> omega
/-- A set that no room leads out of. -/
def Closed (es : List Ed) (fl : List Int) (b : Nat → Bool) : Prop := ∀ v p, b v = true → p ∈ atN es v → 0 < room es fl p v → b (oth (es.getD p dE) v) = true
theorem out_cut_eq {es : List Ed} {N : Nat} (hE : EsOk es N) {fl : List Int} (hk : Keeps es fl) {b : Nat → Bool} (hc : Closed es fl b) : bsum b N (outOf es fl) = cutV es b := by
  rw [out_set hE]
  refine sm_congr fun p hp => ?_
  have h := hk.at_ p _ (ed_at hp)
  have hl := hE.at_ p _ (ed_at hp)
  have c1 := hc (es.getD p dE).f p
  have c2 := hc (es.getD p dE).t p
  have m1 : p ∈ atN es (es.getD p dE).f := mem_atN.2 ⟨hp, by simp [touch]⟩
  have m2 : p ∈ atN es (es.getD p dE).t := mem_atN.2 ⟨hp, by simp [touch]⟩
  have r1 : room es fl p (es.getD p dE).f = (es.getD p dE).lim - fl.getD p 0 := by rw [room, if_pos rfl]
  have r2 : room es fl p (es.getD p dE).t = (es.getD p dE).lim + fl.getD p 0 := by rw [room, if_neg hl.2.2.1]
  have o1 : oth (es.getD p dE) (es.getD p dE).f = (es.getD p dE).t := by rw [oth, if_pos rfl]
  have o2 : oth (es.getD p dE) (es.getD p dE).t = (es.getD p dE).f := by rw [oth, if_neg hl.2.2.1]
  rw [r1, o1] at c1
  rw [r2, o2] at c2
  unfold cutE
  cases hf : b (es.getD p dE).f <;> cases ht : b (es.getD p dE).t
  · simp [-List.getD_eq_getElem?_getD]
  · have : ¬ 0 < (es.getD p dE).lim + fl.getD p 0 := fun q => by have := c2 ht m2 q; rw [hf] at this; cases this
    simp [-List.getD_eq_getElem?_getD]; omega
  · have : ¬ 0 < (es.getD p dE).lim - fl.getD p 0 := fun q => by have := c1 hf m1 q; rw [ht] at this; cases this
    simp [-List.getD_eq_getElem?_getD]; omega
  · simp [-List.getD_eq_getElem?_getD]
/- The search finds all that can be reached. -/
theorem vis_get {es : List Ed} {fl : List Int} {v : Nat} {s : St} {p j u : Nat} (h : s.ord[j]? = some u) : (vis es fl v s p).ord[j]? = some u := by
  unfold vis
  split
  · rw [List.getElem?_append_left (List.getElem?_eq_some_iff.1 h).1]; exact h
  · exact h
theorem fold_get {es : List Ed} {fl : List Int} {v j u : Nat} (l : List Nat) {s : St} (h : s.ord[j]? = some u) : (l.foldl (vis es fl v) s).ord[j]? = some u := by
  induction l generalizing s with
  | nil => exact h
  | cons p l ih => exact ih (vis_get h)
theorem sst_get {es : List Ed} {fl : List Int} {N node j u k : Nat} (m : Nat) (h : (sst es fl N node k).ord[j]? = some u) : (sst es fl N node (k + m)).ord[j]? = some u := by
  induction m with
  | zero => exact h
  | succ m ih =>
    rw [← Nat.add_assoc, sst]
    split
    · exact fold_get _ ih
    · exact ih
theorem vis_has {es : List Ed} {fl : List Int} {N node : Nat} (hE : EsOk es N) {s : St} (h : Inv es fl N node s) {v p : Nat} (hp : p ∈ atN es v) (hr : 0 < room es fl p v) : oth (es.getD p dE) v ∈ (vis es fl v s p).ord := by
  unfold vis
  by_cases hg : goes es fl v s p = true
  · rw [if_pos hg]; simp
  · rw [if_neg hg]
    have hpl := (mem_atN.1 hp).1
    have hl := hE.at_ p _ (ed_at hpl)
    have ho : oth (es.getD p dE) v < N := by
      unfold oth; split
      · exact hl.2.1
      · exact hl.1
    have : s.seen.getD (oth (es.getD p dE) v) true = true := by
      cases hs : s.seen.getD (oth (es.getD p dE) v) true with
      | true => rfl
      | false => exact absurd (by rw [goes, hs, decide_eq_true hr]; rfl) hg
    exact (h.sn _ ho).1 this
theorem fold_has {es : List Ed} {fl : List Int} {N node : Nat} (hE : EsOk es N) {v : Nat} (l : List Nat) (hl : ∀ p ∈ l, p ∈ atN es v) {s : St} (h : Inv es fl N node s) (hv : v ∈ s.ord) {p : Nat} (hp : p ∈ l) (hr : 0 < room es fl p v) : oth (es.getD p dE) v ∈ (l.foldl (vis es fl v) s).ord := by
  induction l generalizing s with
  | nil => cases hp
  | cons q l ih =>
    obtain ⟨h1, h2⟩ := inv_vis hE h hv (hl q (by simp))
    rcases List.mem_cons.1 hp with e | e
    · subst e
      obtain ⟨j, hj⟩ := List.getElem?_of_mem (vis_has hE h (hl p (by simp)) hr)
      exact List.mem_of_getElem? (fold_get l hj)
    · exact ih (fun r hr => hl r (by simp [hr])) h1 h2 e
theorem srch_closed {es : List Ed} {fl : List Int} {N node : Nat} (hE : EsOk es N) (hn : node < N) {v p : Nat} (hv : v ∈ (srch es fl N node).ord) (hp : p ∈ atN es v) (hr : 0 < room es fl p v) : oth (es.getD p dE) v ∈ (srch es fl N node).ord := by
  obtain ⟨j, hj⟩ := List.getElem?_of_mem hv
  have hjl := (List.getElem?_eq_some_iff.1 hj).1
  have hlen := (inv_srch (fl := fl) hE hn).len
  have hjN : j < N := by omega
  have hlt : j < (sst es fl N node j).ord.length := by
    rcases Nat.lt_or_ge j (sst es fl N node j).ord.length with h | h
    · exact h
    · have := sst_stop h (N - j)
      rw [Nat.add_sub_cancel' (by omega)] at this
      unfold srch at hjl
      rw [this] at hjl
      omega
  have hg : (sst es fl N node j).ord[j]? = some v := by
    have h1 := List.getElem?_eq_getElem hlt
    have h2 := sst_get (N - j) h1
    rw [Nat.add_sub_cancel' (by omega)] at h2
    have h3 : (srch es fl N node).ord[j]? = some _ := h2
    rw [hj] at h3
    rw [h1, ← h3]
  have hI := inv_sst (fl := fl) hE hn j
  have h1 : oth (es.getD p dE) v ∈ (sst es fl N node (j + 1)).ord := by
    rw [sst, hg]
    exact fold_has hE _ (fun _ h => h) hI (List.mem_of_getElem? hg) hp hr
  obtain ⟨i, hi⟩ := List.getElem?_of_mem h1
  have h2 := sst_get (N - (j + 1)) hi
  rw [Nat.add_sub_cancel' (by omega)] at h2
  exact List.mem_of_getElem? h2
/- What a sending does tg each node. -/
theorem outOf_push_at {es : List Ed} {N node : Nat} (hE : EsOk es N) {fl0 : List Int} {s : St} (h : Inv es fl0 N node s) {a : Int} {fl : List Int} (hlen : fl.length = es.length) {v : Nat} (hv : v ∈ s.ord) (hvn : v ≠ node) (u : Nat) :
    outOf es (push1 es s a fl v) u = outOf es fl u + (if back es s v = u then a else 0) - (if v = u then a else 0) := by
  obtain ⟨j, hj⟩ := List.mem_iff_getElem?.1 hv
  obtain ⟨e, i, q1, q2, q3, q4, q5, q6⟩ := h.back hE hj hvn
  have hed : es.getD (s.ent.getD v 0) dE = e := by rw [List.getD_eq_getElem?_getD, q1]; rfl
  have hpl : s.ent.getD v 0 < es.length := (List.getElem?_eq_some_iff.1 q1).1
  have hval : (push1 es s a fl v).getD (s.ent.getD v 0) 0 = if e.t = v then fl.getD (s.ent.getD v 0) 0 + a else fl.getD (s.ent.getD v 0) 0 - a := by
    rw [push1, hed, List.getD_eq_getElem?_getD, List.getElem?_set, if_pos rfl, if_pos (by omega)]; rfl
  unfold outOf
  rw [sum_map_set (p := s.ent.getD v 0) (fun p => (if (es.getD p dE).f = u then fl.getD p 0 else 0) - (if (es.getD p dE).t = u then fl.getD p 0 else 0)) _ hpl (fun q hq => by simp only [push1_get (fun x => hq x.symm)])]
  rw [hval, hed, Int.add_sub_assoc]
  congr 1
  rcases q5 with ⟨x1, x2⟩ | ⟨x1, x2⟩
  · rw [if_pos x2, ← x1, ← x2]
    by_cases hf : e.f = u
    · have : e.t ≠ u := by omega
      simp only [hf, this, if_true, if_false]; omega
    · by_cases ht : e.t = u
      · simp only [hf, ht, if_true, if_false]; omega
      · simp only [hf, ht, if_false]; omega
  · have h1 : e.t ≠ v := by omega
    rw [if_neg h1, ← x1, ← x2]
    by_cases hf : e.f = u
    · have : e.t ≠ u := by omega
      simp only [hf, this, if_true, if_false]; omega
    · by_cases ht : e.t = u
      · simp only [hf, ht, if_true, if_false]; omega
      · simp only [hf, ht, if_false]; omega
theorem outOf_pushes_at {es : List Ed} {N node : Nat} (hE : EsOk es N) {fl0 : List Int} {s : St} (h : Inv es fl0 N node s) {a : Int} (j : Nat) : ∀ (v : Nat) (fl : List Int), s.ord[j]? = some v → v ≠ node → fl.length = es.length → ∀ u,
    outOf es (pushes es s a (pth es s node v) fl) u = outOf es fl u + (if node = u then a else 0) - (if v = u then a else 0) := by
  induction j using Nat.strongRecOn with
  | ind j ih =>
    intro v fl hj hv hl u
    obtain ⟨e, i, _, hi, hij, _⟩ := h.back hE hj hv
    have hm := List.mem_of_getElem? hj
    rw [pth_step hE h hm hv, pushes_cons]
    have h1 := outOf_push_at hE h (a := a) hl hm hv u
    by_cases hb : back es s v = node
    · rw [hb, pth_end]
      rw [hb] at h1
      exact h1
    · rw [ih i hij _ _ hi hb (by rw [push1_len]; exact hl), h1]
      omega
/- The full flow. -/
structure FfOk (es : List Ed) (N node tg : Nat) (fl : List Int) : Prop where
  keeps : Keeps es fl
  pos : 0 ≤ outOf es fl node
  zero : ∀ u, u ≠ node → u ≠ tg → outOf es fl u = 0
theorem ff_next {es : List Ed} {N node tg : Nat} (hE : EsOk es N) (hn : node < N) (hne : tg ≠ node) {fl : List Int} (h : FfOk es N node tg fl) (hg : ffGo es N node tg fl) :
    FfOk es N node tg (ffS es N node tg fl) ∧ outOf es fl node < outOf es (ffS es N node tg fl) node := by
  obtain ⟨a1, a2, a3, a4⟩ := ff_step hE hn hne h.keeps hg
  have hI := inv_srch (fl := fl) hE hn
  obtain ⟨j, hj⟩ := List.mem_iff_getElem?.1 hg
  have hp := h.pos
  refine ⟨⟨a3, by omega, fun u hu1 hu2 => ?_⟩, by omega⟩
  have := outOf_pushes_at hE hI (a := ffA es N node tg fl) j tg fl hj hne h.keeps.len u
  rw [if_neg (fun e => hu1 e.symm), if_neg (fun e => hu2 e.symm), h.zero u hu1 hu2] at this
  simpa [ffS] using this
theorem ff_end {es : List Ed} {N node tg : Nat} (hE : EsOk es N) (hn : node < N) (hne : tg ≠ node) (m : Nat) : ∀ fl, FfOk es N node tg fl → (30000 * (es.length : Int) - outOf es fl node).toNat ≤ m →
    ∃ g, Reach (ffGo es N node tg) (ffS es N node tg) fl g ∧ ¬ ffGo es N node tg g ∧ FfOk es N node tg g := by
  induction m with
  | zero =>
    intro fl h hm
    by_cases hg : ffGo es N node tg fl
    · obtain ⟨h1, h2⟩ := ff_next hE hn hne h hg
      have := outOf_le hE h1.keeps node
      omega
    · exact ⟨fl, .refl _, hg, h⟩
  | succ m ih =>
    intro fl h hm
    by_cases hg : ffGo es N node tg fl
    · obtain ⟨h1, h2⟩ := ff_next hE hn hne h hg
      have := outOf_le hE h1.keeps node
      obtain ⟨g, r, q1, q2⟩ := ih _ h1 (by omega)
      exact ⟨g, .step hg r, q1, q2⟩
    · exact ⟨fl, .refl _, hg, h⟩
theorem mfl_spec {es : List Ed} {N node tg : Nat} (hE : EsOk es N) (hn : node < N) (hne : tg ≠ node) : ¬ ffGo es N node tg (mfl es N node tg) ∧ FfOk es N node tg (mfl es N node tg) := by
  obtain ⟨g, r, h1, h2⟩ := ff_end hE hn hne _ (List.replicate es.length 0) ⟨keeps_zero hE, by rw [outOf_zero]; exact Int.le_refl _, fun u _ _ => outOf_zero es u⟩ (Nat.le_refl _)
  rw [mfl, fin_eq r h1]
  exact ⟨h1, h2⟩
theorem bsum_one {N a : Nat} {b : Nat → Bool} {g : Nat → Int} (ha : a < N) (hb : b a = true) (hz : ∀ v, v < N → b v = true → v ≠ a → g v = 0) : bsum b N g = g a := by
  unfold bsum
  rw [← sm_pick ha g]
  refine sm_congr fun v hv => ?_
  by_cases e : a = v
  · subst e; rw [if_pos hb, if_pos rfl]
  · rw [if_neg e]
    by_cases hbv : b v = true
    · rw [if_pos hbv]; exact hz v hv hbv (fun h => e h.symm)
    · rw [if_neg hbv]
theorem ff_cut_le {es : List Ed} {N a c : Nat} (hE : EsOk es N) (ha : a < N) {fl : List Int} (h : FfOk es N a c fl) {b : Nat → Bool} (hb : b a = true) (hc : b c = false) : outOf es fl a ≤ cutV es b := by
  have h1 := out_cut_le hE h.keeps b
  rw [bsum_one ha hb (fun v _ hv hva => h.zero v hva (fun e => by rw [e, hc] at hv; cases hv))] at h1
  exact h1
def inS (l : List Nat) (v : Nat) : Bool := decide (v ∈ l)
theorem ff_cut {es : List Ed} {N a c : Nat} (hE : EsOk es N) (ha : a < N) (hne : c ≠ a) :
    outOf es (mfl es N a c) a = cutV es (inS (srch es (mfl es N a c) N a).ord) ∧ a ∈ (srch es (mfl es N a c) N a).ord ∧ c ∉ (srch es (mfl es N a c) N a).ord := by
  obtain ⟨h1, h2⟩ := mfl_spec hE ha hne
  have hI := inv_srch (fl := mfl es N a c) hE ha
  have hm : a ∈ (srch es (mfl es N a c) N a).ord := List.mem_of_getElem? hI.hd
  have hcl : Closed es (mfl es N a c) (inS (srch es (mfl es N a c) N a).ord) := fun v p hv hp hr => decide_eq_true (srch_closed hE ha (of_decide_eq_true hv) hp hr)
  have h3 := out_cut_eq hE h2.keeps hcl
  rw [bsum_one ha (decide_eq_true hm) (fun v _ hv hva => h2.zero v hva (fun e => h1 (by have q : v ∈ (srch es (mfl es N a c) N a).ord := of_decide_eq_true hv; rw [e] at q; exact q)))] at h3
  exact ⟨h3, hm, h1⟩
theorem cut_not (es : List Ed) (b : Nat → Bool) : cutV es (fun v => !b v) = cutV es b := by
  unfold cutV
  refine sm_congr fun p _ => ?_
  show (if ((!b (es.getD p dE).f) != (!b (es.getD p dE).t)) = true then (es.getD p dE).lim else 0) = (if (b (es.getD p dE).f != b (es.getD p dE).t) = true then (es.getD p dE).lim else 0)
  cases b (es.getD p dE).f <;> cases b (es.getD p dE).t <;> rfl
theorem ff_back {es : List Ed} {N a c : Nat} (hE : EsOk es N) (ha : a < N) (hc : c < N) (hne : c ≠ a) : outOf es (mfl es N c a) c = outOf es (mfl es N a c) a := by
  have key : ∀ {a c : Nat}, a < N → c < N → c ≠ a → outOf es (mfl es N c a) c ≤ outOf es (mfl es N a c) a := by
    intro a c ha hc hne
    obtain ⟨h1, h2, h3⟩ := ff_cut hE ha hne
    rw [h1, ← cut_not]
    exact ff_cut_le hE hc (mfl_spec hE hc (fun e => hne e.symm)).2 (by simp [inS, h3]) (by simp [inS, h2])
  have := key ha hc hne
  have := key hc ha (fun e => hne e.symm)
  omega
/- Capacities of sets of nodes of a network. -/
theorem cap_cut {n : GNet} (hn : netOk n = true) (l : List Nat) : capTo n (casts (memTo l n.nodes.length)) n.pipes.length = cutV (eds n.pipes) (inS l) := by
  unfold capTo cutV
  rw [List.take_length, sm_list dP]
  have hl : (eds n.pipes).length = n.pipes.length := by simp [eds]
  rw [hl]
  refine sm_congr fun p hp => ?_
  have hx : n.pipes[p]? = some n.pipes[p] := List.getElem?_eq_getElem hp
  have ho := pipeOk_all ((netOk_all hn).2 p _ hx)
  have e1 : n.pipes.getD p dP = n.pipes[p] := by rw [List.getD_eq_getElem?_getD, hx]; rfl
  have e2 : (eds n.pipes).getD p dE = edOf n.pipes[p] := by rw [List.getD_eq_getElem?_getD, eds, List.getElem?_map, hx]; rfl
  have key : ∀ x : Int, 0 ≤ x → x < n.nodes.length → decide (x ∈ casts (memTo l n.nodes.length)) = inS l x.toNat := by
    intro x h0 h1
    unfold inS
    rw [decide_eq_decide, mem_casts']
    constructor
    · rintro ⟨v, hv, e⟩
      have := (memTo_mem.1 hv).2
      rw [← e]; simpa using this
    · intro h
      exact ⟨x.toNat, memTo_mem.2 ⟨by omega, h⟩, by omega⟩
  rw [e1, e2]
  unfold capAt cutE edOf
  rw [key _ ho.1.1 (by have := ho.1.2; omega), key _ ho.2.1.1 (by have := ho.2.1.2; omega)]
theorem memTo_code {n : GNet} (hn : netOk n = true) (l : List Nat) : caCode n (casts (memTo l n.nodes.length)) = 0 := by
  rw [caCode, if_pos hn, ca_parts hn, pw_inc (memTo_pw _ _), Bool.and_true, if_pos]
  rw [List.all_eq_true]
  intro x hx
  obtain ⟨v, hv, e⟩ := mem_casts'.1 hx
  have := (memTo_mem.1 hv).1
  unfold inN inB
  simp
  omega
theorem cuts_law {n : GNet} {a b : Int} (h : gfCode n a b = 0) : caCode n (lcRes n a b) = 0 ∧ capVal n (lcRes n a b) = gfVal n a b ∧ gfCode n b a = 0 ∧ gfVal n b a = gfVal n a b ∧ a ∈ lcRes n a b ∧ b ∉ lcRes n a b := by
  obtain ⟨hn, h1, h2, h3⟩ := gfCode_zero h
  have hb : gfCode n b a = 0 := by
    rw [gfCode, if_pos hn, if_pos]
    rw [h1, h2]
    have : ¬ b = a := fun e => h3 e.symm
    simp [this]
  have hE := eds_ok hn
  have k1 : 0 ≤ a ∧ a < n.nodes.length := by simp [inN, inB] at h1; omega
  have k2 : 0 ≤ b ∧ b < n.nodes.length := by simp [inN, inB] at h2; omega
  have hne : b.toNat ≠ a.toNat := by omega
  obtain ⟨c1, c2, c3⟩ := ff_cut (es := eds n.pipes) (N := n.nodes.length) (a := a.toNat) (c := b.toNat) hE (by omega) hne
  have e1 : lcRes n a b = casts (memTo (lcList n a.toNat b.toNat) n.nodes.length) := by rw [lcRes, if_pos h]
  have hc : caCode n (lcRes n a b) = 0 := by rw [e1]; exact memTo_code hn _
  refine ⟨hc, ?_, hb, ?_, ?_, ?_⟩
  · rw [capVal, if_pos hc, gfVal, if_pos h, e1, cap_cut hn, c1]; rfl
  · rw [gfVal, if_pos hb, gfVal, if_pos h]
    exact ff_back hE (by omega) (by omega) hne
  · rw [e1, mem_casts']
    exact ⟨a.toNat, memTo_mem.2 ⟨by omega, c2⟩, by omega⟩
  · rw [e1, mem_casts']
    rintro ⟨v, hv, e⟩
    have := (memTo_mem.1 hv).2
    have hv' : v = b.toNat := by omega
    rw [hv'] at this
    exact c3 this
end Go.Proofs.Ytbckjlejkedonaa
