import Derived.Test.YthhmhigddmimjaaGreatPlainA
import Derived.Test.YthhmhigddmimjaaGreatCutM
/-
  Plain: what the plain search reaches; connected networks. No program here.
-/
set_option linter.unusedSimpArgs false
set_option linter.unusedVariables false
namespace Go.Proofs.YthhmhigddmimjaaGreat

theorem zroom {es : List Ed} {N : Nat} (hE : EsOk es N) {p v : Nat} (hp : p < es.length) : 0 < room es (zf es) p v := by
  have hl := (hE.at_ p _ (ed_at hp)).2.2.2
  rw [room, zf_get]
  split <;> omega
theorem linked_symm {e : Ed} {u v : Nat} (h : linked e u v) : linked e v u := by
  rcases h with ⟨a, b⟩ | ⟨a, b⟩
  · exact Or.inr ⟨b, a⟩
  · exact Or.inl ⟨b, a⟩
theorem linked_oth {e : Ed} {u v : Nat} (hne : e.f ≠ e.t) (h : linked e u v) : oth e u = v := by
  unfold oth
  rcases h with ⟨a, b⟩ | ⟨a, b⟩
  · rw [if_pos a]; exact b
  · rw [if_neg (by omega)]; exact b
theorem linked_touch {e : Ed} {u v : Nat} (h : linked e u v) : touch e u = true := by
  unfold touch
  rcases h with ⟨a, _⟩ | ⟨a, _⟩ <;> simp [a]
theorem z_inv {es : List Ed} {N i : Nat} (hE : EsOk es N) (hi : i < N) : Inv es (zf es) N i (srch es (zf es) N i) := inv_srch hE hi
theorem z_self {es : List Ed} {N i : Nat} (hE : EsOk es N) (hi : i < N) : i ∈ ordZ es N i := List.mem_of_getElem? (z_inv hE hi).hd
theorem z_lt {es : List Ed} {N i v : Nat} (hE : EsOk es N) (hi : i < N) (hv : v ∈ ordZ es N i) : v < N := (z_inv hE hi).lt v hv
theorem z_next {es : List Ed} {N i p u v : Nat} {e : Ed} (hE : EsOk es N) (hi : i < N) (hu : u ∈ ordZ es N i) (he : es[p]? = some e) (hl : linked e u v) : v ∈ ordZ es N i := by
  have hp := (List.getElem?_eq_some_iff.1 he).1
  have hed : es.getD p dE = e := by rw [List.getD_eq_getElem?_getD, he]; rfl
  have h := srch_closed hE hi hu (p := p) (mem_atN.2 ⟨hp, by rw [hed]; exact linked_touch hl⟩) (zroom hE hp)
  rw [hed, linked_oth (hE.at_ p e he).2.2.1 hl] at h
  exact h
theorem z_trans {es : List Ed} {N i v : Nat} (hE : EsOk es N) (hi : i < N) (hv : v ∈ ordZ es N i) {u : Nat} (hu : u ∈ ordZ es N v) : u ∈ ordZ es N i := by
  have hvN := z_lt hE hi hv
  have key : ∀ (j u : Nat), (ordZ es N v)[j]? = some u → u ∈ ordZ es N i := by
    intro j
    induction j using Nat.strongRecOn with
    | ind j ih =>
      intro u hj
      rcases Nat.eq_zero_or_pos j with h0 | h0
      · subst h0
        have := (z_inv hE hvN).hd
        rw [show (srch es (zf es) N v).ord = ordZ es N v from rfl, hj] at this
        injection this with this
        rw [this]; exact hv
      · obtain ⟨e, k, x, q1, q2, q3, _, q5⟩ := (z_inv hE hvN).en j u hj h0
        exact z_next hE hi (ih k q3 x q2) q1 q5
  obtain ⟨j, hj⟩ := List.getElem?_of_mem hu
  exact key j u hj
theorem z_symm {es : List Ed} {N i : Nat} (hE : EsOk es N) (hi : i < N) {u : Nat} (hu : u ∈ ordZ es N i) : i ∈ ordZ es N u := by
  have huN := z_lt hE hi hu
  have key : ∀ (j x : Nat), (ordZ es N i)[j]? = some x → x ∈ ordZ es N u → i ∈ ordZ es N u := by
    intro j
    induction j using Nat.strongRecOn with
    | ind j ih =>
      intro x hj hx
      rcases Nat.eq_zero_or_pos j with h0 | h0
      · subst h0
        have := (z_inv hE hi).hd
        rw [show (srch es (zf es) N i).ord = ordZ es N i from rfl, hj] at this
        injection this with this
        rw [← this]; exact hx
      · obtain ⟨e, k, y, q1, q2, q3, _, q5⟩ := (z_inv hE hi).en j x hj h0
        exact ih k q3 y q2 (z_next hE huN hx q1 (linked_symm q5))
  obtain ⟨j, hj⟩ := List.getElem?_of_mem hu
  exact key j u hj (z_self hE huN)
/-- What has a component so far. -/
theorem comp_has {es : List Ed} {N : Nat} (hE : EsOk es N) : ∀ k, k ≤ N → (∀ u, u < N → (0 ≤ (compTo es N k).getD u 0 ↔ ∃ i, i < k ∧ u ∈ ordZ es N i)) := by
  intro k
  induction k with
  | zero =>
    intro _ u hu
    refine ⟨fun h => ?_, fun ⟨i, hi, _⟩ => absurd hi (by omega)⟩
    rw [compTo, List.range_zero, List.foldl_nil, List.getD_eq_getElem?_getD, List.getElem?_replicate, if_pos hu] at h
    simp at h
  | succ k ih =>
    intro hk u hu
    have ih := ih (by omega)
    rw [compTo_succ, cstep]
    by_cases hc : (compTo es N k).getD k 0 < 0
    · rw [if_pos hc]
      have hg := paint_get (i := k) (l := ordZ es N k) (c := compTo es N k) (v := u) (by rw [compTo_len]; exact hu)
      by_cases hm : u ∈ ordZ es N k
      · rw [hg.1 hm]
        exact ⟨fun _ => ⟨k, by omega, hm⟩, fun _ => by omega⟩
      · rw [hg.2 hm, ih u hu]
        refine ⟨fun ⟨i, hi, hu⟩ => ⟨i, by omega, hu⟩, fun ⟨i, hi, hu⟩ => ?_⟩
        rcases Nat.lt_or_ge i k with h | h
        · exact ⟨i, h, hu⟩
        · have : i = k := by omega
          rw [this] at hu
          exact absurd hu hm
    · rw [if_neg hc, ih u hu]
      refine ⟨fun ⟨i, hi, hu⟩ => ⟨i, by omega, hu⟩, fun ⟨i, hi, hu⟩ => ?_⟩
      rcases Nat.lt_or_ge i k with h | h
      · exact ⟨i, h, hu⟩
      · have : i = k := by omega
        rw [this] at hu
        obtain ⟨i', hi', hk'⟩ := (ih k (by omega)).1 (by omega)
        exact ⟨i', hi', z_trans hE (by omega) hk' hu⟩
theorem comp_keep {es : List Ed} {N : Nat} (hE : EsOk es N) {k u : Nat} (hk : k < N) (hu : u < N) (h : 0 ≤ (compTo es N k).getD u 0) : (compTo es N (k + 1)).getD u 0 = (compTo es N k).getD u 0 := by
  rw [compTo_succ, cstep]
  by_cases hc : (compTo es N k).getD k 0 < 0
  · rw [if_pos hc]
    have hg := paint_get (i := k) (l := ordZ es N k) (c := compTo es N k) (v := u) (by rw [compTo_len]; exact hu)
    refine hg.2 fun hm => ?_
    obtain ⟨i, hi, hui⟩ := (comp_has hE k (by omega) u hu).1 h
    have h1 := z_trans hE (by omega : i < N) hui (z_symm hE hk hm)
    have := (comp_has hE k (by omega) k hk).2 ⟨i, hi, h1⟩
    omega
  · rw [if_neg hc]
theorem comp_stay {es : List Ed} {N : Nat} (hE : EsOk es N) {k u : Nat} (hu : u < N) (h : 0 ≤ (compTo es N k).getD u 0) (m : Nat) (hm : k + m ≤ N) : (compTo es N (k + m)).getD u 0 = (compTo es N k).getD u 0 := by
  induction m with
  | zero => rfl
  | succ m ih =>
    have ih := ih (by omega)
    rw [← Nat.add_assoc, comp_keep hE (by omega) hu (by rw [ih]; exact h), ih]
def conB (es : List Ed) (N : Nat) : Bool := decide ((ordZ es N 0).length = N)
theorem con_all {es : List Ed} {N : Nat} (hE : EsOk es N) (h0 : 0 < N) (h : conB es N = true) {v : Nat} (hv : v < N) : v ∈ ordZ es N 0 := by
  have hI := z_inv hE h0
  have hl : (ordZ es N 0).length = N := of_decide_eq_true h
  by_cases hm : v ∈ ordZ es N 0
  · exact hm
  · have := nodup_len (N := N) (l := v :: ordZ es N 0) (List.nodup_cons.2 ⟨hm, hI.nd⟩) (fun u hu => by
      rcases List.mem_cons.1 hu with e | hu
      · rw [e]; exact hv
      · exact hI.lt u hu)
    simp only [List.length_cons] at this
    omega
theorem con_of {es : List Ed} {N : Nat} (hE : EsOk es N) (h0 : 0 < N) (h : ∀ v, v < N → v ∈ ordZ es N 0) : conB es N = true := by
  have hI := z_inv hE h0
  have h1 : (memTo (ordZ es N 0) N) = List.range N := List.filter_eq_self.2 fun v hv => by simpa using h v (List.mem_range.1 hv)
  have h2 := congrArg List.length (srt_nodes hI.nd hI.lt)
  have h3 : (srt (casts (srch es (zf es) N 0).ord)).length = (srch es (zf es) N 0).ord.length := by rw [(srt_perm _).length_eq]; simp [casts]
  rw [h3, show (srch es (zf es) N 0).ord = ordZ es N 0 from rfl, h1] at h2
  exact decide_eq_true (by rw [h2]; simp [casts])
theorem comp_zero {es : List Ed} {N : Nat} (hE : EsOk es N) {v : Nat} (hv : v ∈ ordZ es N 0) (h0 : 0 < N) : (comps es N).getD v 0 = 0 := by
  have hvN := z_lt hE h0 hv
  have h1 : (compTo es N 1).getD v 0 = 0 := by
    rw [compTo_succ, cstep]
    have hc : (compTo es N 0).getD 0 0 < 0 := by
      rw [compTo, List.range_zero, List.foldl_nil, List.getD_eq_getElem?_getD, List.getElem?_replicate, if_pos h0]; simp
    rw [if_pos hc]
    exact (paint_get (i := 0) (l := ordZ es N 0) (c := compTo es N 0) (v := v) (by rw [compTo_len]; exact hvN)).1 hv
  have := comp_stay hE hvN (by rw [h1]; omega) (N - 1) (k := 1) (by omega)
  rw [show 1 + (N - 1) = N by omega] at this
  exact this.trans h1
theorem con_comps {es : List Ed} {N : Nat} (hE : EsOk es N) (h0 : 0 < N) (h : conB es N = true) : comps es N = List.replicate N 0 := by
  have hl : (comps es N).length = N := compTo_len _ _ _
  apply List.ext_getElem?
  intro v
  by_cases hv : v < N
  · have := comp_zero hE (con_all hE h0 h hv) h0
    rw [List.getD_eq_getElem?_getD, List.getElem?_eq_getElem (by omega)] at this
    rw [List.getElem?_eq_getElem (by omega), List.getElem?_replicate, if_pos hv]
    exact congrArg some this
  · rw [List.getElem?_eq_none (by omega), List.getElem?_eq_none (by simp; omega)]
def cntTo (c : List Int) (k : Nat) : Nat := ((List.range k).filter fun i => decide (c.getD i 0 = (i : Int))).length
theorem cnt_yes {c : List Int} {k : Nat} (h : c.getD k 0 = (k : Int)) : cntTo c (k + 1) = cntTo c k + 1 := by
  rw [cntTo, List.range_succ, List.filter_append, List.length_append]
  simp only [List.filter_cons, decide_eq_true h, if_true, List.filter_nil, List.length_singleton]
  rfl
theorem cnt_no {c : List Int} {k : Nat} (h : c.getD k 0 ≠ (k : Int)) : cntTo c (k + 1) = cntTo c k := by
  rw [cntTo, List.range_succ, List.filter_append, List.length_append]
  simp only [List.filter_cons, decide_eq_false h, List.filter_nil, List.length_nil]
  rfl
theorem cnt_le (c : List Int) (k : Nat) : cntTo c k ≤ k := by
  induction k with
  | zero => exact Nat.le_refl _
  | succ k ih =>
    by_cases h : c.getD k 0 = (k : Int)
    · rw [cnt_yes h]; omega
    · rw [cnt_no h]; omega
theorem con_cnt {es : List Ed} {N : Nat} (hE : EsOk es N) (h0 : 0 < N) : decide (cntTo (comps es N) N = 1) = conB es N := by
  have hz : (comps es N).getD 0 0 = 0 := comp_zero hE (z_self hE h0) h0
  cases hc : conB es N with
  | true =>
    refine decide_eq_true ?_
    rw [con_comps hE h0 hc]
    have key : ∀ k, k ≤ N → 0 < k → cntTo (List.replicate N 0) k = 1 := by
      intro k
      induction k with
      | zero => intro _ h; omega
      | succ k ih =>
        intro hk _
        have hg : (List.replicate N (0 : Int)).getD k 0 = 0 := by rw [List.getD_eq_getElem?_getD, List.getElem?_replicate, if_pos (by omega)]; rfl
        rcases Nat.eq_zero_or_pos k with e | e
        · subst e; rw [cnt_yes (by rw [hg]; rfl)]; rfl
        · rw [cnt_no (by rw [hg]; omega)]; exact ih (by omega) e
    exact key N (Nat.le_refl _) h0
  | false =>
    refine decide_eq_false fun h1 => ?_
    have hex : ∃ v, v < N ∧ v ∉ ordZ es N 0 := by
      refine Classical.byContradiction fun hn => ?_
      have := con_of hE h0 (fun v hv => Classical.byContradiction fun hm => hn ⟨v, hv, hm⟩)
      rw [hc] at this
      cases this
    obtain ⟨v, hv, hno, hmin⟩ : ∃ v, v < N ∧ v ∉ ordZ es N 0 ∧ ∀ u, u < v → u ∈ ordZ es N 0 := by
      obtain ⟨v0, h1, h2⟩ := hex
      have key : ∀ m v, v ≤ m → v < N → v ∉ ordZ es N 0 → ∃ v, v < N ∧ v ∉ ordZ es N 0 ∧ ∀ u, u < v → u ∈ ordZ es N 0 := by
        intro m
        induction m with
        | zero => intro v hv h1 h2; exact ⟨v, h1, h2, fun u hu => absurd hu (by omega)⟩
        | succ m ih =>
          intro v hv h1 h2
          by_cases he : ∃ u, u < v ∧ u ∉ ordZ es N 0
          · obtain ⟨u, a, b⟩ := he
            exact ih u (by omega) (by omega) b
          · exact ⟨v, h1, h2, fun u hu => Classical.byContradiction fun hm => he ⟨u, hu, hm⟩⟩
      exact key v0 v0 (Nat.le_refl _) h1 h2
    have hv0 : v ≠ 0 := fun e => hno (by rw [e]; exact z_self hE h0)
    have hneg : (compTo es N v).getD v 0 < 0 := by
      rcases Int.lt_or_le ((compTo es N v).getD v 0) 0 with h | h
      · exact h
      · obtain ⟨i, hi, hvi⟩ := (comp_has hE v (by omega) v hv).1 h
        exact absurd (z_trans hE h0 (hmin i hi) hvi) hno
    have h2 : (compTo es N (v + 1)).getD v 0 = (v : Int) := by
      rw [compTo_succ, cstep, if_pos hneg]
      exact (paint_get (i := v) (l := ordZ es N v) (c := compTo es N v) (v := v) (by rw [compTo_len]; exact hv)).1 (z_self hE hv)
    have h3 := comp_stay hE hv (by rw [h2]; omega) (N - (v + 1)) (k := v + 1) (by omega)
    rw [show v + 1 + (N - (v + 1)) = N by omega, h2] at h3
    have h3 : (comps es N).getD v 0 = (v : Int) := h3
    rw [cntTo] at h1
    obtain ⟨x, hx⟩ := List.length_eq_one_iff.1 h1
    have m0 : (0 : Nat) ∈ (List.range N).filter fun i => decide ((comps es N).getD i 0 = (i : Int)) := List.mem_filter.2 ⟨List.mem_range.2 h0, decide_eq_true hz⟩
    have mv : v ∈ (List.range N).filter fun i => decide ((comps es N).getD i 0 = (i : Int)) := List.mem_filter.2 ⟨List.mem_range.2 hv, decide_eq_true h3⟩
    rw [hx, List.mem_singleton] at m0 mv
    omega
end Go.Proofs.YthhmhigddmimjaaGreat
/-
  Plain: the forest of a connected network, and the search in it. No program here.
-/
set_option linter.unusedSimpArgs false
set_option linter.unusedVariables false
namespace Go.Proofs.YthhmhigddmimjaaGreat

def sZ (es : List Ed) (N : Nat) : St := srch es (zf es) N 0
def entZ (es : List Ed) (N v : Nat) : Nat := (sZ es N).ent.getD v 0
def isFo (es : List Ed) (N p : Nat) : Bool := (List.range N).any fun v => decide (v ≠ 0) && decide (entZ es N v = p)
def foL (es : List Ed) (N : Nat) : List Nat := (List.range es.length).filter (isFo es N)
def chL (es : List Ed) (N : Nat) : List Nat := (List.range es.length).filter fun p => !isFo es N p
theorem isFo_iff {es : List Ed} {N p : Nat} : isFo es N p = true ↔ ∃ v, v < N ∧ v ≠ 0 ∧ entZ es N v = p := by
  simp [isFo, List.any_eq_true]
theorem foL_mem {es : List Ed} {N p : Nat} : p ∈ foL es N ↔ p < es.length ∧ isFo es N p = true := by simp [foL]
theorem foL_nodup (es : List Ed) (N : Nat) : (foL es N).Nodup := List.Pairwise.filter _ List.nodup_range
def tE (es : List Ed) (N : Nat) : List Ed := (foL es N).map fun p => es.getD p dE
theorem tE_len (es : List Ed) (N : Nat) : (tE es N).length = (foL es N).length := by simp [tE]
theorem tE_at {es : List Ed} {N i p : Nat} (h : (foL es N)[i]? = some p) : (tE es N)[i]? = some (es.getD p dE) := by rw [tE, List.getElem?_map, h]; rfl
theorem tE_get {es : List Ed} {N i p : Nat} (h : (foL es N)[i]? = some p) : (tE es N).getD i dE = es.getD p dE := by rw [List.getD_eq_getElem?_getD, tE_at h]; rfl
theorem tE_ok {es : List Ed} {N : Nat} (hE : EsOk es N) : EsOk (tE es N) N := by
  refine ⟨fun i e h => ?_⟩
  rw [tE, List.getElem?_map] at h
  obtain ⟨p, hp, rfl⟩ := Option.map_eq_some_iff.1 h
  exact hE.at_ p _ (ed_at (foL_mem.1 (List.mem_of_getElem? hp)).1)
theorem getN_set_ne {l : List Nat} {k j z : Nat} (h : k ≠ j) : (l.set k z).getD j 0 = l.getD j 0 := by rw [List.getD_eq_getElem?_getD, List.getElem?_set_ne h, ← List.getD_eq_getElem?_getD]
theorem getN_set_self {l : List Nat} {k z : Nat} (h : k < l.length) : (l.set k z).getD k 0 = z := by rw [List.getD_eq_getElem?_getD, List.getElem?_set_self h]; rfl
/-- Who is visited keeps the entry. -/
theorem vis_keep {es : List Ed} {fl : List Int} {N node : Nat} (hE : EsOk es N) {s : St} (h : Inv es fl N node s) {v p u : Nat} (hp : p ∈ atN es v) (hu : u ∈ s.ord) : (vis es fl v s p).ent.getD u 0 = s.ent.getD u 0 ∧ u ∈ (vis es fl v s p).ord := by
  unfold vis
  by_cases hg : goes es fl v s p = true
  · rw [if_pos hg]
    refine ⟨getN_set_ne fun e => ?_, List.mem_append_left _ hu⟩
    simp only [goes, Bool.and_eq_true, Bool.not_eq_true'] at hg
    rw [e, (h.sn u (h.lt u hu)).2 hu] at hg
    cases hg.1
  · rw [if_neg hg]; exact ⟨rfl, hu⟩
theorem fold_keep {es : List Ed} {fl : List Int} {N node : Nat} (hE : EsOk es N) {v : Nat} (l : List Nat) (hl : ∀ p ∈ l, p ∈ atN es v) {s : St} (h : Inv es fl N node s) (hv : v ∈ s.ord) {u : Nat} (hu : u ∈ s.ord) : (l.foldl (vis es fl v) s).ent.getD u 0 = s.ent.getD u 0 ∧ u ∈ (l.foldl (vis es fl v) s).ord := by
  induction l generalizing s with
  | nil => exact ⟨rfl, hu⟩
  | cons p l ih =>
    obtain ⟨a, b⟩ := vis_keep hE h (hl p (by simp)) hu
    obtain ⟨c, d⟩ := inv_vis hE h hv (hl p (by simp))
    obtain ⟨x, y⟩ := ih (fun q hq => hl q (by simp [hq])) c d b
    exact ⟨x.trans a, y⟩
theorem sst_keep {es : List Ed} {fl : List Int} {N node k u : Nat} (hE : EsOk es N) (hn : node < N) (hu : u ∈ (sst es fl N node k).ord) (m : Nat) : (sst es fl N node (k + m)).ent.getD u 0 = (sst es fl N node k).ent.getD u 0 ∧ u ∈ (sst es fl N node (k + m)).ord := by
  induction m with
  | zero => exact ⟨rfl, hu⟩
  | succ m ih =>
    have hI := inv_sst (fl := fl) hE hn (k + m)
    rw [← Nat.add_assoc, sst]
    split
    · rename_i v hv
      obtain ⟨a, b⟩ := fold_keep hE _ (fun _ h => h) hI (List.mem_of_getElem? hv) ih.2
      exact ⟨a.trans ih.1, b⟩
    · exact ih
structure Sim (es : List Ed) (N : Nat) (s t : St) : Prop where
  ord : s.ord = t.ord
  seen : s.seen = t.seen
  ent : ∀ v, v ∈ s.ord → v ≠ 0 → (foL es N)[t.ent.getD v 0]? = some (s.ent.getD v 0)
theorem sim_vis {es : List Ed} {N v p i : Nat} (hE : EsOk es N) {s t : St} (S : Sim es N s t) (h1 : s.ent.length = N) (h2 : t.ent.length = N) (hi : (foL es N)[i]? = some p) :
    Sim es N (vis es (zf es) v s p) (vis (tE es N) (zf (tE es N)) v t i) := by
  have hp := (foL_mem.1 (List.mem_of_getElem? hi)).1
  have e1 := tE_get hi
  have hg1 := goes_zero (v := v) (s := s) hE (ed_at hp)
  have hg2 := goes_zero (v := v) (s := t) (tE_ok hE) (tE_at hi)
  have hg : goes (tE es N) (zf (tE es N)) v t i = goes es (zf es) v s p := by rw [hg1, hg2, S.seen]
  unfold vis
  rw [hg, e1]
  by_cases h : goes es (zf es) v s p = true
  · rw [if_pos h, if_pos h]
    have hl := hE.at_ p _ (ed_at hp)
    have ho : oth (es.getD p dE) v < N := by unfold oth; split <;> first | exact hl.2.1 | exact hl.1
    refine ⟨by rw [S.ord], by rw [S.seen], fun u hu h0 => ?_⟩
    by_cases e : oth (es.getD p dE) v = u
    · subst e
      rw [getN_set_self (by omega), getN_set_self (by omega)]; exact hi
    · rw [getN_set_ne e, getN_set_ne e]
      refine S.ent u ?_ h0
      rcases List.mem_append.1 hu with h | h
      · exact h
      · exact absurd (List.mem_singleton.1 h).symm e
  · rw [if_neg h, if_neg h]; exact S
theorem sim_fold {es : List Ed} {N v : Nat} (hE : EsOk es N) (L : List Nat) (hL : ∀ p ∈ L, p ∈ atN es v) : ∀ (K : List Nat) (s t : St), Sim es N s t → Inv es (zf es) N 0 s → v ∈ s.ord → Inv (tE es N) (zf (tE es N)) N 0 t → (∀ i ∈ K, i ∈ atN (tE es N) v) →
    K.map (fun i => (foL es N).getD i 0) = L.filter (isFo es N) → (∀ u, u ∈ (L.foldl (vis es (zf es) v) s).ord → u ≠ 0 → (L.foldl (vis es (zf es) v) s).ent.getD u 0 = entZ es N u) →
    Sim es N (L.foldl (vis es (zf es) v) s) (K.foldl (vis (tE es N) (zf (tE es N)) v) t) := by
  induction L with
  | nil =>
    intro K s t S _ _ _ _ hK _
    rw [List.filter_nil] at hK
    rw [List.map_eq_nil_iff.1 hK]
    exact S
  | cons p L ih =>
    intro K s t S hI hv hI' hKm hK hF
    obtain ⟨i1, i2⟩ := inv_vis hE hI hv (hL p (by simp))
    have hL' : ∀ q ∈ L, q ∈ atN es v := fun q hq => hL q (by simp [hq])
    cases hq : isFo es N p with
    | true =>
      rw [List.filter_cons, if_pos hq] at hK
      cases K with
      | nil => simp at hK
      | cons i K =>
        simp only [List.map_cons, List.cons.injEq] at hK
        have hil := (mem_atN.1 (hKm i (by simp))).1
        rw [tE_len] at hil
        have hi : (foL es N)[i]? = some p := by
          have := hK.1
          rw [List.getD_eq_getElem?_getD, List.getElem?_eq_getElem hil] at this
          rw [List.getElem?_eq_getElem hil]; exact congrArg some this
        have hv' : v ∈ t.ord := by rw [← S.ord]; exact hv
        obtain ⟨j1, j2⟩ := inv_vis (tE_ok hE) hI' hv' (hKm i (by simp))
        exact ih hL' K _ _ (sim_vis hE S hI.el hI'.el hi) i1 i2 j1 (fun k hk => hKm k (by simp [hk])) hK.2 hF
    | false =>
      rw [List.filter_cons, if_neg (by rw [hq]; decide)] at hK
      have hg : goes es (zf es) v s p = false := by
        cases hg : goes es (zf es) v s p with
        | false => rfl
        | true =>
          exfalso
          have hpl := (mem_atN.1 (hL p (by simp))).1
          have hl := hE.at_ p _ (ed_at hpl)
          have ho : oth (es.getD p dE) v < N := by unfold oth; split <;> first | exact hl.2.1 | exact hl.1
          have hvis : vis es (zf es) v s p = ⟨s.ent.set (oth (es.getD p dE) v) p, s.seen.set (oth (es.getD p dE) v) true, s.ord ++ [oth (es.getD p dE) v]⟩ := by rw [vis, if_pos hg]
          have hm : oth (es.getD p dE) v ∈ (vis es (zf es) v s p).ord := by rw [hvis]; simp
          have he : (vis es (zf es) v s p).ent.getD (oth (es.getD p dE) v) 0 = p := by rw [hvis]; exact getN_set_self (by rw [hI.el]; exact ho)
          obtain ⟨k1, k2⟩ := fold_keep hE L hL' i1 i2 hm
          have h0 : oth (es.getD p dE) v ≠ 0 := by
            intro e
            simp only [goes, Bool.and_eq_true, Bool.not_eq_true'] at hg
            rw [e, (hI.sn 0 (by omega)).2 (List.mem_of_getElem? hI.hd)] at hg
            cases hg.1
          have := hF _ k2 h0
          rw [List.foldl_cons, k1, he] at this
          rw [isFo_iff.2 ⟨_, ho, h0, this.symm⟩] at hq
          cases hq
      have hvis : vis es (zf es) v s p = s := by rw [vis, if_neg (by rw [hg]; decide)]
      rw [List.foldl_cons, hvis] at hF ⊢
      exact ih hL' K s t S hI hv hI' hKm hK hF
theorem idx_filter (l : List Nat) (P : Nat → Bool) : (((List.range l.length).filter fun i => P (l.getD i 0)).map fun i => l.getD i 0) = l.filter P := by
  have h : l = (List.range l.length).map fun i => l.getD i 0 := by
    apply List.ext_getElem?
    intro i
    by_cases hi : i < l.length
    · rw [List.getElem?_map, List.getElem?_range hi, List.getElem?_eq_getElem hi, Option.map_some, List.getD_eq_getElem?_getD, List.getElem?_eq_getElem hi]; rfl
    · rw [List.getElem?_eq_none (by omega), List.getElem?_eq_none (by simp; omega)]
  conv => rhs; rw [h]
  rw [List.filter_map]; rfl
theorem at_tree {es : List Ed} {N : Nat} (v : Nat) : (atN (tE es N) v).map (fun i => (foL es N).getD i 0) = (atN es v).filter (isFo es N) := by
  have h1 : atN (tE es N) v = (List.range (foL es N).length).filter fun i => touch (es.getD ((foL es N).getD i 0) dE) v := by
    rw [atN, tE_len]
    refine List.filter_congr fun i hi => ?_
    have hi := List.mem_range.1 hi
    rw [tE_get (p := (foL es N).getD i 0) (by rw [List.getD_eq_getElem?_getD, List.getElem?_eq_getElem hi]; rfl)]
  rw [h1, idx_filter (foL es N) (fun p => touch (es.getD p dE) v), foL, atN, List.filter_filter, List.filter_filter]
  refine List.filter_congr fun p _ => Bool.and_comm _ _
theorem tree_sst {es : List Ed} {N : Nat} (hE : EsOk es N) (h0 : 0 < N) : ∀ k, k ≤ N → Sim es N (sst es (zf es) N 0 k) (sst (tE es N) (zf (tE es N)) N 0 k) := by
  intro k
  induction k with
  | zero =>
    intro _
    exact ⟨rfl, rfl, fun v hv h => absurd (List.mem_singleton.1 hv) h⟩
  | succ k ih =>
    intro hk
    have S := ih (by omega)
    have hI := inv_sst (fl := zf es) hE h0 k
    have hI' := inv_sst (fl := zf (tE es N)) (tE_ok hE) h0 k
    have hF : ∀ u, u ∈ (sst es (zf es) N 0 (k + 1)).ord → u ≠ 0 → (sst es (zf es) N 0 (k + 1)).ent.getD u 0 = entZ es N u := fun u hu _ => by
      have := (sst_keep hE h0 hu (N - (k + 1))).1
      rw [Nat.add_sub_cancel' hk] at this
      exact this.symm
    rw [sst] at hF
    rw [sst, sst, ← S.ord]
    cases hv : (sst es (zf es) N 0 k).ord[k]? with
    | none => exact S
    | some v =>
      rw [hv] at hF
      exact sim_fold hE (atN es v) (fun _ h => h) (atN (tE es N) v) _ _ S hI (List.mem_of_getElem? hv) hI' (fun _ h => h) (at_tree v) hF
theorem tree_sim {es : List Ed} {N : Nat} (hE : EsOk es N) (h0 : 0 < N) : Sim es N (sZ es N) (sZ (tE es N) N) := tree_sst hE h0 N (Nat.le_refl _)
theorem tree_con {es : List Ed} {N : Nat} (hE : EsOk es N) (h0 : 0 < N) (hc : conB es N = true) : conB (tE es N) N = true := by
  have h1 : (ordZ es N 0).length = N := of_decide_eq_true hc
  have h2 : ordZ es N 0 = ordZ (tE es N) N 0 := (tree_sim hE h0).ord
  exact decide_eq_true (by rw [← h2]; exact h1)
/-- All nodes reach each other in the forest. -/
theorem tree_any {es : List Ed} {N a b : Nat} (hE : EsOk es N) (hc : conB es N = true) (ha : a < N) (hb : b < N) : b ∈ ordZ (tE es N) N a := by
  have h0 : 0 < N := by omega
  have hT := tE_ok (N := N) hE
  have c := tree_con hE h0 hc
  exact z_trans hT ha (z_symm hT h0 (con_all hT h0 c ha)) (con_all hT h0 c hb)
/-- The pipes that enter. -/
theorem con_at {es : List Ed} {N v : Nat} (hE : EsOk es N) (hc : conB es N = true) (hv : v < N) (h0 : v ≠ 0) : ∃ (e : Ed) (j i : Nat), es[entZ es N v]? = some e ∧ (ordZ es N 0)[j]? = some v ∧ (ordZ es N 0)[i]? = some (back es (sZ es N) v) ∧ i < j ∧ linked e (back es (sZ es N) v) v ∧ e.f ≠ e.t := by
  have h00 : 0 < N := by omega
  obtain ⟨j, hj⟩ := List.getElem?_of_mem (con_all hE h00 hc hv)
  obtain ⟨e, i, q1, q2, q3, _, q5, q6⟩ := (z_inv hE h00).back hE hj h0
  exact ⟨e, j, i, q1, hj, q2, q3, q5, q6⟩
theorem entZ_lt {es : List Ed} {N v : Nat} (hE : EsOk es N) (hc : conB es N = true) (hv : v < N) (h0 : v ≠ 0) : entZ es N v < es.length := by
  obtain ⟨e, j, i, q1, _⟩ := con_at hE hc hv h0
  exact (List.getElem?_eq_some_iff.1 q1).1
theorem fo_lt {es : List Ed} {N p : Nat} (hE : EsOk es N) (hc : conB es N = true) (h : isFo es N p = true) : p < es.length := by
  obtain ⟨v, a, b, rfl⟩ := isFo_iff.1 h
  exact entZ_lt hE hc a b
theorem tree_ent {es : List Ed} {N v : Nat} (hE : EsOk es N) (hc : conB es N = true) (hv : v < N) (h0 : v ≠ 0) : (foL es N)[(sZ (tE es N) N).ent.getD v 0]? = some (entZ es N v) :=
  (tree_sim hE (by omega)).ent v (con_all hE (by omega) hc hv) h0
end Go.Proofs.YthhmhigddmimjaaGreat
/-
  Plain: what flows in a forest is known by what flows out of the nodes; the flows of the forest. No program here.
-/
set_option linter.unusedSimpArgs false
set_option linter.unusedVariables false
namespace Go.Proofs.YthhmhigddmimjaaGreat

theorem sm_one {n k : Nat} {g : Nat → Int} (hk : k < n) (h : ∀ i, i < n → i ≠ k → g i = 0) : sm n g = g k := by
  rw [← sm_pick hk g]
  refine sm_congr fun i hi => ?_
  by_cases e : k = i
  · rw [if_pos e]
  · rw [if_neg e]; exact h i hi (fun x => e x.symm)
def oTerm (es : List Ed) (fl : List Int) (v p : Nat) : Int := (if (es.getD p dE).f = v then fl.getD p 0 else 0) - (if (es.getD p dE).t = v then fl.getD p 0 else 0)
theorem outOf_sm (es : List Ed) (fl : List Int) (v : Nat) : outOf es fl v = sm es.length (oTerm es fl v) := rfl
theorem link_term {es : List Ed} {fl : List Int} {v p u : Nat} (h : linked (es.getD p dE) u v) (hne : (es.getD p dE).f ≠ (es.getD p dE).t) (hz : oTerm es fl v p = 0) : fl.getD p 0 = 0 := by
  unfold oTerm at hz
  rcases h with ⟨a, b⟩ | ⟨a, b⟩
  · rw [if_neg (by omega), if_pos b] at hz; omega
  · rw [if_pos b, if_neg (by omega)] at hz; omega
/-- A flow of the forest that nothing flows out of is none. -/
theorem uniq0 {es : List Ed} {N : Nat} (hE : EsOk es N) (h0 : 0 < N) (hc : conB es N = true) {d : List Int} (hf : ∀ p, isFo es N p = false → d.getD p 0 = 0) (ho : ∀ v, v < N → v ≠ 0 → outOf es d v = 0) : ∀ p, d.getD p 0 = 0 := by
  have hI := z_inv hE h0
  have key : ∀ m j v, N - j ≤ m → (ordZ es N 0)[j]? = some v → v ≠ 0 → d.getD (entZ es N v) 0 = 0 := by
    intro m
    induction m with
    | zero =>
      intro j v hm hj _
      have := (List.getElem?_eq_some_iff.1 hj).1
      have := hI.len
      have : (ordZ es N 0).length ≤ N := this
      omega
    | succ m ih =>
      intro j v hm hj hv0
      have hvN := z_lt hE h0 (List.mem_of_getElem? hj)
      obtain ⟨e, i, q1, q2, q3, _, q5, q6⟩ := hI.back hE hj hv0
      have q1 : es[entZ es N v]? = some e := q1
      have hed : es.getD (entZ es N v) dE = e := by rw [List.getD_eq_getElem?_getD, q1]; rfl
      have hpl : entZ es N v < es.length := (List.getElem?_eq_some_iff.1 q1).1
      have h := ho v hvN hv0
      rw [outOf_sm, sm_one (k := entZ es N v) hpl] at h
      · exact link_term (by rw [hed]; exact q5) (by rw [hed]; exact q6) h
      · intro p hp hne
        cases hfo : isFo es N p with
        | false => unfold oTerm; rw [hf p hfo]; simp
        | true =>
          obtain ⟨u, hu, hu0, hup⟩ := isFo_iff.1 hfo
          obtain ⟨k, hk⟩ := List.getElem?_of_mem (con_all hE h0 hc hu)
          obtain ⟨e', i', r1, r2, r3, _, r5, r6⟩ := hI.back hE hk hu0
          have r1 : es[entZ es N u]? = some e' := r1
          have hed' : es.getD p dE = e' := by rw [← hup, List.getD_eq_getElem?_getD, r1]; rfl
          have huv : u ≠ v := fun e => hne (by rw [← hup, e])
          by_cases hb : back es (srch es (zf es) N 0) u = v
          · have hji : j = i' := by
              rw [hb] at r2
              exact (List.getElem?_inj (List.getElem?_eq_some_iff.1 hj).1 hI.nd).1 (hj.trans r2.symm)
            have := ih k u (by omega) hk hu0
            rw [hup] at this
            unfold oTerm; rw [this]; simp
          · unfold oTerm
            rw [hed']
            rcases r5 with ⟨a, b⟩ | ⟨a, b⟩
            · rw [if_neg (by omega), if_neg (by omega)]; rfl
            · rw [if_neg (by omega), if_neg (by omega)]; rfl
  intro p
  cases hfo : isFo es N p with
  | false => exact hf p hfo
  | true =>
    obtain ⟨u, hu, hu0, hup⟩ := isFo_iff.1 hfo
    obtain ⟨k, hk⟩ := List.getElem?_of_mem (con_all hE h0 hc hu)
    rw [← hup]
    exact key (N - k) k u (Nat.le_refl _) hk hu0
theorem outOf_diff {es : List Ed} {f g d : List Int} (h : ∀ p, d.getD p 0 = f.getD p 0 - g.getD p 0) (v : Nat) : outOf es d v = outOf es f v - outOf es g v := by
  rw [outOf_sm, outOf_sm, outOf_sm, ← sm_sub]
  refine sm_congr fun p _ => ?_
  unfold oTerm
  rw [h p]
  split <;> split <;> omega
theorem uniq {es : List Ed} {N : Nat} (hE : EsOk es N) (h0 : 0 < N) (hc : conB es N = true) {f g : List Int} (hl : f.length = g.length) (hf : ∀ p, isFo es N p = false → f.getD p 0 = g.getD p 0) (ho : ∀ v, v < N → outOf es f v = outOf es g v) : f = g := by
  obtain ⟨d, hd⟩ : ∃ d : List Int, d = (List.range f.length).map fun p => f.getD p 0 - g.getD p 0 := ⟨_, rfl⟩
  have hdp : ∀ p, d.getD p 0 = f.getD p 0 - g.getD p 0 := by
    intro p
    by_cases hp : p < f.length
    · rw [hd, List.getD_eq_getElem?_getD, List.getElem?_map, List.getElem?_range hp]; rfl
    · rw [hd, List.getD_eq_getElem?_getD, List.getD_eq_getElem?_getD, List.getD_eq_getElem?_getD, List.getElem?_eq_none (by simp; omega), List.getElem?_eq_none (by omega), List.getElem?_eq_none (by omega)]; rfl
  have h := uniq0 hE h0 hc (d := d) (fun p hp => by rw [hdp, hf p hp]; omega) (fun v hv _ => by rw [outOf_diff hdp, ho v hv]; omega)
  apply List.ext_getElem?
  intro p
  by_cases hp : p < f.length
  · have := h p
    rw [hdp, List.getD_eq_getElem?_getD, List.getD_eq_getElem?_getD, List.getElem?_eq_getElem hp, List.getElem?_eq_getElem (by omega)] at this
    rw [List.getElem?_eq_getElem hp, List.getElem?_eq_getElem (by omega)]
    exact congrArg some (by simpa using Int.sub_eq_zero.1 this)
  · rw [List.getElem?_eq_none (by omega), List.getElem?_eq_none (by omega)]
/- The flows of the forest that balance supplies. -/
def rev0 (es : List Ed) (N : Nat) : List Nat := ((ordZ es N 0).drop 1).reverse
def ffX (es : List Ed) (N v : Nat) (x : Int) : Int := if (es.getD (entZ es N v) dE).t = v then -x else x
def ffOne (es : List Ed) (N : Nat) (s : List Int × List Int) (v : Nat) : List Int × List Int :=
  (s.1.set (entZ es N v) (ffX es N v (s.2.getD v 0)), s.2.set (back es (sZ es N) v) (s.2.getD (back es (sZ es N) v) 0 + s.2.getD v 0))
def ffTo (es : List Ed) (N : Nat) (sup : List Int) (k : Nat) : List Int × List Int := ((rev0 es N).take k).foldl (ffOne es N) (List.replicate es.length 0, sup)
def ffL (es : List Ed) (N : Nat) (sup : List Int) : List Int := (ffTo es N sup (N - 1)).1
/-- The same where what is done is struck out. -/
def fzOne (es : List Ed) (N : Nat) (s : List Int × List Int) (v : Nat) : List Int × List Int := ((ffOne es N s v).1, (ffOne es N s v).2.set v 0)
def fzTo (es : List Ed) (N : Nat) (sup : List Int) (k : Nat) : List Int × List Int := ((rev0 es N).take k).foldl (fzOne es N) (List.replicate es.length 0, sup)
theorem ffTo_zero (es : List Ed) (N : Nat) (sup : List Int) : ffTo es N sup 0 = (List.replicate es.length 0, sup) := rfl
theorem fzTo_zero (es : List Ed) (N : Nat) (sup : List Int) : fzTo es N sup 0 = (List.replicate es.length 0, sup) := rfl
theorem ffTo_step {es : List Ed} {N : Nat} {sup : List Int} {k v : Nat} (h : (rev0 es N)[k]? = some v) : ffTo es N sup (k + 1) = ffOne es N (ffTo es N sup k) v := by
  rw [ffTo, List.take_add_one, h, Option.toList_some, List.foldl_append]; rfl
theorem fzTo_step {es : List Ed} {N : Nat} {sup : List Int} {k v : Nat} (h : (rev0 es N)[k]? = some v) : fzTo es N sup (k + 1) = fzOne es N (fzTo es N sup k) v := by
  rw [fzTo, List.take_add_one, h, Option.toList_some, List.foldl_append]; rfl
theorem ff_len (es : List Ed) (N : Nat) (sup : List Int) (k : Nat) : (ffTo es N sup k).1.length = es.length ∧ (ffTo es N sup k).2.length = sup.length := by
  induction k with
  | zero => simp [ffTo_zero]
  | succ k ih =>
    cases h : (rev0 es N)[k]? with
    | none =>
      have : ffTo es N sup (k + 1) = ffTo es N sup k := by rw [ffTo, List.take_add_one, h]; simp [ffTo]
      rw [this]; exact ih
    | some v => rw [ffTo_step h]; simp [ffOne, ih]
theorem fz_len (es : List Ed) (N : Nat) (sup : List Int) (k : Nat) : (fzTo es N sup k).1.length = es.length ∧ (fzTo es N sup k).2.length = sup.length := by
  induction k with
  | zero => simp [fzTo_zero]
  | succ k ih =>
    cases h : (rev0 es N)[k]? with
    | none =>
      have : fzTo es N sup (k + 1) = fzTo es N sup k := by rw [fzTo, List.take_add_one, h]; simp [fzTo]
      rw [this]; exact ih
    | some v => rw [fzTo_step h]; simp [fzOne, ffOne, ih]
theorem rev_len {es : List Ed} {N : Nat} (hc : conB es N = true) : (rev0 es N).length = N - 1 := by
  have : (ordZ es N 0).length = N := of_decide_eq_true hc
  simp [rev0, this]
theorem rev_get {es : List Ed} {N k v : Nat} (hc : conB es N = true) (hk : k < N - 1) : (rev0 es N)[k]? = some v ↔ (ordZ es N 0)[N - 1 - k]? = some v := by
  have h1 : (ordZ es N 0).length = N := of_decide_eq_true hc
  rw [rev0, List.getElem?_reverse (by simp [h1]; omega), List.getElem?_drop]
  rw [show 1 + (((ordZ es N 0).drop 1).length - 1 - k) = N - 1 - k by simp [h1]; omega]
/-- What is known of a node that is done as number k. -/
structure FfAt (es : List Ed) (N k v : Nat) : Prop where
  lt : v < N
  ne : v ≠ 0
  pos : (ordZ es N 0)[N - 1 - k]? = some v
  at_ : ∃ (e : Ed) (i : Nat), es[entZ es N v]? = some e ∧ (ordZ es N 0)[i]? = some (back es (sZ es N) v) ∧ i < N - 1 - k ∧ linked e (back es (sZ es N) v) v ∧ e.f ≠ e.t
  el : entZ es N v < es.length
  bl : back es (sZ es N) v < N
  bne : back es (sZ es N) v ≠ v
theorem ff_at {es : List Ed} {N k v : Nat} (hE : EsOk es N) (hc : conB es N = true) (hk : k < N - 1) (h : (rev0 es N)[k]? = some v) : FfAt es N k v := by
  have h0 : 0 < N := by omega
  have hp := (rev_get hc hk).1 h
  have hI := z_inv hE h0
  have hv := z_lt hE h0 (List.mem_of_getElem? hp)
  have hne : v ≠ 0 := by
    intro e
    have h1 := hI.hd
    have h2 : (srch es (zf es) N 0).ord[N - 1 - k]? = some v := hp
    rw [e] at h2
    have := (List.getElem?_inj (List.getElem?_eq_some_iff.1 h1).1 hI.nd).1 (h1.trans h2.symm)
    omega
  obtain ⟨e, i, q1, q2, q3, _, q5, q6⟩ := hI.back hE hp hne
  have hbl := z_lt hE h0 (List.mem_of_getElem? q2)
  refine ⟨hv, hne, hp, ⟨e, i, q1, q2, q3, q5, q6⟩, (List.getElem?_eq_some_iff.1 q1).1, hbl, fun hb => ?_⟩
  have hb : back es (srch es (zf es) N 0) v = v := hb
  rw [hb] at q5
  rcases q5 with ⟨a, b⟩ | ⟨a, b⟩ <;> omega
theorem ff_some {es : List Ed} {N k : Nat} (hc : conB es N = true) (hk : k < N - 1) : ∃ v, (rev0 es N)[k]? = some v := ⟨_, List.getElem?_eq_getElem (by rw [rev_len hc]; exact hk)⟩
theorem ord_inj {es : List Ed} {N i j v : Nat} (hE : EsOk es N) (h0 : 0 < N) (hi : (ordZ es N 0)[i]? = some v) (hj : (ordZ es N 0)[j]? = some v) : i = j :=
  (List.getElem?_inj (List.getElem?_eq_some_iff.1 hi).1 (z_inv hE h0).nd).1 (hi.trans hj.symm)
/-- Both ways lead to the same flows. -/
theorem ff_fz {es : List Ed} {N : Nat} {sup : List Int} (hE : EsOk es N) (hc : conB es N = true) (hs : sup.length = N) : ∀ k, k ≤ N - 1 → (fzTo es N sup k).1 = (ffTo es N sup k).1 ∧ ∀ j u, (ordZ es N 0)[j]? = some u → (j < N - k → (fzTo es N sup k).2.getD u 0 = (ffTo es N sup k).2.getD u 0) ∧ (N - k ≤ j → (fzTo es N sup k).2.getD u 0 = 0) := by
  intro k
  induction k with
  | zero =>
    intro _
    refine ⟨rfl, fun j u hj => ⟨fun _ => rfl, fun h => ?_⟩⟩
    have h1 : (ordZ es N 0).length = N := of_decide_eq_true hc
    have := (List.getElem?_eq_some_iff.1 hj).1
    omega
  | succ k ih =>
    intro hk
    have h0 : 0 < N := by omega
    obtain ⟨h1, h2⟩ := ih (by omega)
    obtain ⟨v, hv⟩ := ff_some hc (show k < N - 1 by omega)
    have F := ff_at hE hc (by omega) hv
    obtain ⟨e, i, q1, q2, q3, q5, q6⟩ := F.at_
    obtain ⟨l1, l2⟩ := ff_len es N sup k
    obtain ⟨m1, m2⟩ := fz_len es N sup k
    have e1 := (h2 (N - 1 - k) v F.pos).1 (by omega)
    have e2 := (h2 i _ q2).1 (by omega)
    rw [ffTo_step hv, fzTo_step hv]
    simp only [fzOne, ffOne]
    refine ⟨by rw [h1, e1], fun j u hj => ⟨fun hlt => ?_, fun hle => ?_⟩⟩
    · have hvu : v ≠ u := fun e => by rw [← e] at hj; have := ord_inj hE h0 hj F.pos; omega
      rw [getD_set_ne hvu]
      by_cases hb : back es (sZ es N) v = u
      · rw [hb] at e2 ⊢
        have hul : u < N := by rw [← hb]; exact F.bl
        rw [getD_set_self (by rw [m2, hs]; exact hul), getD_set_self (by rw [l2, hs]; exact hul), e1, e2]
      · rw [getD_set_ne hb, getD_set_ne hb]
        exact (h2 j u hj).1 (by omega)
    · by_cases hvu : v = u
      · rw [← hvu]; exact getD_set_self (by simp [m2, hs, F.lt])
      · rw [getD_set_ne hvu]
        have hb : back es (sZ es N) v ≠ u := fun e => by
          rw [e] at q2
          have := ord_inj hE h0 hj q2
          omega
        rw [getD_set_ne hb]
        refine (h2 j u hj).2 ?_
        have : j ≠ N - 1 - k := fun e => by
          rw [e, F.pos] at hj
          injection hj with hj
          exact hvu hj
        omega
/-- What flows so far. -/
theorem fz_out {es : List Ed} {N : Nat} {sup : List Int} (hE : EsOk es N) (hc : conB es N = true) (hs : sup.length = N) : ∀ k, k ≤ N - 1 →
    (∀ u, u < N → outOf es (fzTo es N sup k).1 u + (fzTo es N sup k).2.getD u 0 = sup.getD u 0) ∧ (∀ p, (∀ j v, N - k ≤ j → (ordZ es N 0)[j]? = some v → entZ es N v ≠ p) → (fzTo es N sup k).1.getD p 0 = 0) := by
  intro k
  induction k with
  | zero =>
    intro _
    rw [fzTo_zero]
    refine ⟨fun u hu => by show outOf es (List.replicate es.length 0) u + sup.getD u 0 = sup.getD u 0; rw [outOf_zero]; omega, fun p _ => ?_⟩
    rw [List.getD_eq_getElem?_getD, List.getElem?_replicate]; split <;> rfl
  | succ k ih =>
    intro hk
    have h0 : 0 < N := by omega
    obtain ⟨h1, h2⟩ := ih (by omega)
    obtain ⟨v, hv⟩ := ff_some hc (show k < N - 1 by omega)
    have F := ff_at hE hc (by omega) hv
    obtain ⟨e, i, q1, q2, q3, q5, q6⟩ := F.at_
    obtain ⟨m1, m2⟩ := fz_len es N sup k
    have hI := z_inv hE h0
    have hz : (fzTo es N sup k).1.getD (entZ es N v) 0 = 0 := h2 _ fun j u hj hu he => by
      have hum := List.mem_of_getElem? hu
      have hu0 : u ≠ 0 := fun e => by
        have h3 := hI.hd
        rw [e] at hu
        have := ord_inj hE h0 hu h3
        omega
      have : u = v := ent_inj hE hI hum (List.mem_of_getElem? F.pos) hu0 F.ne he
      rw [this] at hu
      have := ord_inj hE h0 hu F.pos
      omega
    have hpush : (fzTo es N sup (k + 1)).1 = push1 es (sZ es N) (-((fzTo es N sup k).2.getD v 0)) (fzTo es N sup k).1 v := by
      rw [fzTo_step hv]
      simp only [fzOne, ffOne]
      have hpe : (sZ es N).ent.getD v 0 = entZ es N v := rfl
      rw [push1, hpe, hz, ffX]
      congr 1
      split <;> omega
    have hl2 : (fzTo es N sup (k + 1)).2 = ((fzTo es N sup k).2.set (back es (sZ es N) v) ((fzTo es N sup k).2.getD (back es (sZ es N) v) 0 + (fzTo es N sup k).2.getD v 0)).set v 0 := by rw [fzTo_step hv]; rfl
    refine ⟨fun u hu => ?_, fun p hp => ?_⟩
    · have ho := outOf_push_at hE hI (a := -((fzTo es N sup k).2.getD v 0)) (fl := (fzTo es N sup k).1) m1 (List.mem_of_getElem? F.pos) F.ne u
      rw [hpush]
      have hb' : back es (srch es (zf es) N 0) v = back es (sZ es N) v := rfl
      rw [hb'] at ho
      have hs' : srch es (zf es) N 0 = sZ es N := rfl
      rw [hs'] at ho
      rw [ho, hl2]
      have := h1 u hu
      by_cases e1 : v = u
      · subst e1
        rw [getD_set_self (by simp [m2, hs, F.lt]), if_neg F.bne, if_pos rfl]
        omega
      · rw [getD_set_ne e1, if_neg e1]
        by_cases e2 : back es (sZ es N) v = u
        · rw [if_pos e2, e2, getD_set_self (by rw [m2, hs]; exact hu)]; omega
        · rw [if_neg e2, getD_set_ne e2]; omega
    · rw [hpush, push1_get (hp (N - 1 - k) v (by omega) F.pos)]
      exact h2 p fun j u hj hu => hp j u (by omega) hu
theorem ff_out {es : List Ed} {N : Nat} {sup : List Int} (hE : EsOk es N) (h0 : 0 < N) (hc : conB es N = true) (hs : sup.length = N) (hz : sm N (fun u => sup.getD u 0) = 0) :
    (∀ u, u < N → outOf es (ffL es N sup) u = sup.getD u 0) ∧ (∀ p, isFo es N p = false → (ffL es N sup).getD p 0 = 0) ∧ (ffL es N sup).length = es.length := by
  have h1 := ff_fz hE hc hs (N - 1) (Nat.le_refl _)
  obtain ⟨h2, h3⟩ := fz_out hE hc hs (N - 1) (Nat.le_refl _)
  have hI := z_inv hE h0
  rw [h1.1] at h2 h3
  have hl : ∀ u, u < N → u ≠ 0 → (fzTo es N sup (N - 1)).2.getD u 0 = 0 := fun u hu hu0 => by
    obtain ⟨j, hj⟩ := List.getElem?_of_mem (con_all hE h0 hc hu)
    refine (h1.2 j u hj).2 ?_
    rcases Nat.eq_zero_or_pos j with e | e
    · rw [e] at hj
      have := hI.hd
      rw [show (srch es (zf es) N 0).ord = ordZ es N 0 from rfl, hj] at this
      injection this with this
      exact absurd this hu0
    · omega
  have hsum : sm N (outOf es (ffL es N sup)) + sm N (fun u => (fzTo es N sup (N - 1)).2.getD u 0) = sm N (fun u => sup.getD u 0) := by
    rw [← sm_add]
    exact sm_congr fun u hu => h2 u hu
  rw [hz] at hsum
  have hr : sm N (fun u => (fzTo es N sup (N - 1)).2.getD u 0) = (fzTo es N sup (N - 1)).2.getD 0 0 := sm_one h0 (fun u hu hu0 => hl u hu hu0)
  rw [out_all hE, hr] at hsum
  refine ⟨fun u hu => ?_, fun p hp => ?_, (ff_len es N sup (N - 1)).1⟩
  · have := h2 u hu
    by_cases e : u = 0
    · rw [e] at this ⊢
      have h4 : outOf es (ffTo es N sup (N - 1)).1 0 = outOf es (ffL es N sup) 0 := rfl
      omega
    · have h5 := hl u hu e
      have h4 : outOf es (ffTo es N sup (N - 1)).1 u = outOf es (ffL es N sup) u := rfl
      omega
  · refine h3 p fun j v hj hv he => ?_
    have hvN := z_lt hE h0 (List.mem_of_getElem? hv)
    have hv0 : v ≠ 0 := fun e => by
      rw [e] at hv
      have := ord_inj hE h0 hv hI.hd
      omega
    have := isFo_iff.2 ⟨v, hvN, hv0, he⟩
    rw [hp] at this
    cases this
end Go.Proofs.YthhmhigddmimjaaGreat
/-
  Plain: the cycles of chords, by the forest's flows and by the way in the forest. No program here.
-/
set_option linter.unusedSimpArgs false
set_option linter.unusedVariables false
namespace Go.Proofs.YthhmhigddmimjaaGreat

theorem filt_sm (n : Nat) (b : Nat → Bool) (g : Nat → Int) : (((List.range n).filter b).map g).sum = sm n (fun p => if b p = true then g p else 0) := by
  induction n with
  | zero => rfl
  | succ n ih =>
    rw [List.range_succ, List.filter_append, List.map_append, List.sum_append, ih, sm_succ]
    congr 1
    cases h : b n <;> simp [List.filter_cons, h]
theorem out_tree {es : List Ed} {N : Nat} {g g' : List Int} (h1 : ∀ i p, (foL es N)[i]? = some p → g.getD p 0 = g'.getD i 0) (h2 : ∀ p, isFo es N p = false → g.getD p 0 = 0) (v : Nat) : outOf es g v = outOf (tE es N) g' v := by
  have e1 : sm es.length (oTerm es g v) = sm es.length (fun p => if isFo es N p = true then oTerm es g v p else 0) := sm_congr fun p _ => by
    cases h : isFo es N p with
    | false => unfold oTerm; rw [h2 p h]; simp
    | true => rw [if_pos rfl]
  rw [outOf_sm, outOf_sm, e1, ← filt_sm]
  have e2 : ((foL es N).map (oTerm es g v)).sum = sm (foL es N).length (fun i => oTerm es g v ((foL es N).getD i 0)) := sm_list 0 _ _
  refine Eq.trans e2 ?_
  rw [tE_len]
  refine sm_congr fun i hi => ?_
  have hp : (foL es N)[i]? = some ((foL es N).getD i 0) := by rw [List.getD_eq_getElem?_getD, List.getElem?_eq_getElem hi]; rfl
  unfold oTerm
  rw [tE_get hp, h1 i _ hp]
def cycS (N a b : Nat) : List Int := ((List.replicate N (0 : Int)).set a 1).set b (-1)
theorem cycS_len (N a b : Nat) : (cycS N a b).length = N := by simp [cycS]
theorem cycS_get {N a b u : Nat} (ha : a < N) (hb : b < N) (hne : a ≠ b) : (cycS N a b).getD u 0 = (if a = u then 1 else 0) - (if b = u then 1 else 0) := by
  unfold cycS
  by_cases e : b = u
  · rw [← e, getD_set_self (by simp [hb]), if_neg hne, if_pos rfl]; rfl
  · rw [getD_set_ne e, if_neg e]
    by_cases e2 : a = u
    · rw [← e2, getD_set_self (by simp [ha]), if_pos rfl]; rfl
    · rw [getD_set_ne e2, if_neg e2, List.getD_eq_getElem?_getD, List.getElem?_replicate]; split <;> rfl
theorem cycS_sum {N a b : Nat} (ha : a < N) (hb : b < N) (hne : a ≠ b) : sm N (fun u => (cycS N a b).getD u 0) = 0 := by
  have : sm N (fun u => (cycS N a b).getD u 0) = sm N (fun u => if a = u then (1 : Int) else 0) - sm N (fun u => if b = u then (1 : Int) else 0) := by
    rw [← sm_sub]; exact sm_congr fun u _ => cycS_get ha hb hne
  rw [this, sm_pick ha (fun _ => 1), sm_pick hb (fun _ => 1)]; rfl
/-- The cycle of a chord. -/
def cyc (es : List Ed) (N c : Nat) : List Int := (ffL es N (cycS N (es.getD c dE).t (es.getD c dE).f)).set c 1
/- What a sending lays on the pipes of its way. -/
theorem pushes_other {es : List Ed} {s : St} {a : Int} (l : List Nat) : ∀ (fl : List Int) (p : Nat), (∀ v ∈ l, s.ent.getD v 0 ≠ p) → (pushes es s a l fl).getD p 0 = fl.getD p 0 := by
  induction l with
  | nil => intro fl p _; rfl
  | cons u l ih =>
    intro fl p h
    rw [pushes_cons, ih _ p (fun v hv => h v (by simp [hv])), push1_get (h u (by simp))]
theorem pushes_at {es : List Ed} {N node : Nat} (hE : EsOk es N) {fl0 : List Int} {s : St} (h : Inv es fl0 N node s) {a : Int} (l : List Nat) : ∀ (fl : List Int) (v : Nat), (∀ u ∈ l, u ∈ s.ord ∧ u ≠ node) → l.Nodup → fl.length = es.length → v ∈ l →
    (pushes es s a l fl).getD (s.ent.getD v 0) 0 = if (es.getD (s.ent.getD v 0) dE).t = v then fl.getD (s.ent.getD v 0) 0 + a else fl.getD (s.ent.getD v 0) 0 - a := by
  induction l with
  | nil => intro fl v _ _ _ hv; cases hv
  | cons u l ih =>
    intro fl v hl hn hf hv
    rw [List.nodup_cons] at hn
    have hinj : ∀ x y, x ∈ u :: l → y ∈ u :: l → x ≠ y → s.ent.getD x 0 ≠ s.ent.getD y 0 := fun x y hx hy hne e =>
      hne (ent_inj hE h (hl x hx).1 (hl y hy).1 (hl x hx).2 (hl y hy).2 e)
    rw [pushes_cons]
    by_cases e : v = u
    · subst e
      rw [pushes_other l _ _ (fun x hx => hinj x v (by simp [hx]) (by simp) (fun e => hn.1 (by rw [← e]; exact hx)))]
      obtain ⟨j, hj⟩ := List.getElem?_of_mem (hl v (by simp)).1
      obtain ⟨ed, i, q1, _⟩ := h.back hE hj (hl v (by simp)).2
      have hp := (List.getElem?_eq_some_iff.1 q1).1
      rw [push1, getD_set_self (by omega)]
    · have hvl : v ∈ l := by
        rcases List.mem_cons.1 hv with h | h
        · exact absurd h e
        · exact h
      rw [ih _ v (fun x hx => hl x (by simp [hx])) hn.2 (by rw [push1_len]; exact hf) hvl, push1_get (hinj u v (by simp) hv (fun x => e x.symm))]
/- The way in the forest. -/
def tS (es : List Ed) (N a : Nat) : St := srch (tE es N) (zf (tE es N)) N a
def tP (es : List Ed) (N a b : Nat) : List Nat := pth (tE es N) (tS es N a) a b
def tEnt (es : List Ed) (N a u : Nat) : Nat := (tS es N a).ent.getD u 0
def tSgn (es : List Ed) (N a u : Nat) : Int := if ((tE es N).getD (tEnt es N a u) dE).f = back (tE es N) (tS es N a) u then 1 else -1
def csOne (es : List Ed) (N a : Nat) (out : List Int) (u : Nat) : List Int := out.set ((foL es N).getD (tEnt es N a u) 0) (tSgn es N a u)
def cySet (es : List Ed) (N a : Nat) (l : List Nat) (out : List Int) : List Int := l.foldl (csOne es N a) out
theorem cs_len (es : List Ed) (N a : Nat) (l : List Nat) : ∀ out, (cySet es N a l out).length = out.length := by
  induction l with
  | nil => intro out; rfl
  | cons u l ih => intro out; exact (ih (csOne es N a out u)).trans (by simp [csOne])
theorem cs_snoc {es : List Ed} {N a : Nat} {l : List Nat} {k u : Nat} {out : List Int} (h : l[k]? = some u) : cySet es N a (l.take (k + 1)) out = csOne es N a (cySet es N a (l.take k) out) u := by
  rw [cySet, List.take_add_one, h, Option.toList_some, List.foldl_append]; rfl
theorem cs_other {es : List Ed} {N a : Nat} (l : List Nat) : ∀ (out : List Int) (p : Nat), (∀ u ∈ l, (foL es N).getD (tEnt es N a u) 0 ≠ p) → (cySet es N a l out).getD p 0 = out.getD p 0 := by
  induction l with
  | nil => intro out p _; rfl
  | cons u l ih =>
    intro out p h
    exact (ih (csOne es N a out u) p (fun v hv => h v (by simp [hv]))).trans (getD_set_ne (h u (by simp)))
theorem cs_at {es : List Ed} {N a : Nat} (l : List Nat) : ∀ (out : List Int) (v : Nat), (∀ x y, x ∈ l → y ∈ l → (foL es N).getD (tEnt es N a x) 0 = (foL es N).getD (tEnt es N a y) 0 → x = y) → l.Nodup → (foL es N).getD (tEnt es N a v) 0 < out.length → v ∈ l →
    (cySet es N a l out).getD ((foL es N).getD (tEnt es N a v) 0) 0 = tSgn es N a v := by
  induction l with
  | nil => intro out v _ _ _ hv; cases hv
  | cons u l ih =>
    intro out v hinj hn hf hv
    rw [List.nodup_cons] at hn
    by_cases e : v = u
    · subst e
      exact (cs_other l (csOne es N a out v) _ (fun x hx e => hn.1 (by rw [← hinj x v (by simp [hx]) (by simp) e]; exact hx))).trans (getD_set_self hf)
    · have hvl : v ∈ l := by
        rcases List.mem_cons.1 hv with h | h
        · exact absurd h e
        · exact h
      exact ih (csOne es N a out u) v (fun x y hx hy => hinj x y (by simp [hx]) (by simp [hy])) hn.2 (by simp [csOne]; exact hf) hvl
theorem cs_bnd {es : List Ed} {N a : Nat} (l : List Nat) : ∀ (out : List Int), (∀ p, -1 ≤ out.getD p 0 ∧ out.getD p 0 ≤ 1) → ∀ p, -1 ≤ (cySet es N a l out).getD p 0 ∧ (cySet es N a l out).getD p 0 ≤ 1 := by
  induction l with
  | nil => intro out h; exact h
  | cons u l ih =>
    intro out h
    refine ih (csOne es N a out u) fun p => ?_
    unfold csOne
    by_cases e : (foL es N).getD (tEnt es N a u) 0 = p
    · by_cases hp : p < out.length
      · rw [e, getD_set_self hp]; unfold tSgn; split <;> omega
      · rw [List.getD_eq_getElem?_getD, List.getElem?_eq_none (by simp; omega)]; simp
    · rw [getD_set_ne e]; exact h p
theorem cs_comm {es : List Ed} {N a c : Nat} {x : Int} (l : List Nat) : ∀ (out : List Int), (∀ u ∈ l, (foL es N).getD (tEnt es N a u) 0 ≠ c) → cySet es N a l (out.set c x) = (cySet es N a l out).set c x := by
  induction l with
  | nil => intro out _; rfl
  | cons u l ih =>
    intro out h
    have e : csOne es N a (out.set c x) u = (csOne es N a out u).set c x := by
      unfold csOne
      rw [List.set_comm _ _ (fun e => h u (by simp) e.symm)]
    have : cySet es N a (u :: l) (out.set c x) = cySet es N a l (csOne es N a (out.set c x) u) := rfl
    rw [this, e, ih _ (fun v hv => h v (by simp [hv]))]; rfl
/-- What is known of the way between the ends of a chord. -/
structure WayOk (es : List Ed) (N a b : Nat) : Prop where
  inv : Inv (tE es N) (zf (tE es N)) N a (tS es N a)
  mem : b ∈ (tS es N a).ord
  all : ∀ u ∈ tP es N a b, u ∈ (tS es N a).ord ∧ u ≠ a
  nd : (tP es N a b).Nodup
  el : ∀ u ∈ tP es N a b, tEnt es N a u < (foL es N).length
  inj : ∀ x y, x ∈ tP es N a b → y ∈ tP es N a b → (foL es N).getD (tEnt es N a x) 0 = (foL es N).getD (tEnt es N a y) 0 → x = y
theorem fo_get {es : List Ed} {N i : Nat} (h : i < (foL es N).length) : (foL es N)[i]? = some ((foL es N).getD i 0) := by rw [List.getD_eq_getElem?_getD, List.getElem?_eq_getElem h]; rfl
theorem way_ok {es : List Ed} {N a b : Nat} (hE : EsOk es N) (hc : conB es N = true) (ha : a < N) (hb : b < N) : WayOk es N a b := by
  have hT := tE_ok (N := N) hE
  have hI := z_inv hT ha
  have hm := tree_any hE hc ha hb
  obtain ⟨j, hj⟩ := List.getElem?_of_mem hm
  obtain ⟨h1, h2⟩ := pth_all hT hI j b hj
  have hall : ∀ u ∈ tP es N a b, u ∈ (tS es N a).ord ∧ u ≠ a := fun u hu => by
    obtain ⟨x, i, _, y⟩ := h1 u hu
    exact ⟨List.mem_of_getElem? y, x⟩
  have hel : ∀ u ∈ tP es N a b, tEnt es N a u < (foL es N).length := fun u hu => by
    obtain ⟨x, y⟩ := hall u hu
    obtain ⟨k, hk⟩ := List.getElem?_of_mem x
    obtain ⟨e, i, q1, _⟩ := hI.back hT hk y
    rw [← tE_len]; exact (List.getElem?_eq_some_iff.1 q1).1
  refine ⟨hI, hm, hall, h2, hel, fun x y hx hy e => ?_⟩
  have h3 := fo_get (hel x hx)
  have h4 := fo_get (hel y hy)
  rw [e] at h3
  have h5 := (List.getElem?_inj (hel x hx) (foL_nodup es N)).1 (h3.trans h4.symm)
  exact ent_inj hT hI (hall x hx).1 (hall y hy).1 (hall x hx).2 (hall y hy).2 h5
/-- The step along a way. -/
theorem pth_next {es : List Ed} {fl : List Int} {N node : Nat} (hE : EsOk es N) {s : St} (h : Inv es fl N node s) (j : Nat) : ∀ v, s.ord[j]? = some v → ∀ (k x : Nat), (pth es s node v)[k]? = some x →
    (pth es s node v)[k + 1]? = some (back es s x) ∨ ((pth es s node v).length = k + 1 ∧ back es s x = node) := by
  induction j using Nat.strongRecOn with
  | ind j ih =>
    intro v hj k x hx
    by_cases hv : v = node
    · rw [hv, pth_end] at hx; simp at hx
    · obtain ⟨e, i, _, hi, hij, _⟩ := h.back hE hj hv
      rw [pth_step hE h (List.mem_of_getElem? hj) hv] at hx ⊢
      cases k with
      | zero =>
        simp only [List.getElem?_cons_zero, Option.some.injEq] at hx
        subst hx
        by_cases hb : back es s v = node
        · right; rw [hb, pth_end]; simp
        · left; rw [List.getElem?_cons_succ, pth_step hE h (List.mem_of_getElem? hi) hb]; rfl
      | succ k =>
        rw [List.getElem?_cons_succ] at hx
        rcases ih i hij _ hi k x hx with h1 | ⟨h1, h2⟩
        · left; rw [List.getElem?_cons_succ]; exact h1
        · right; rw [List.length_cons, h1]; exact ⟨rfl, h2⟩
/-- The other way to the cycle. -/
def cyG (es : List Ed) (N a b : Nat) : List Int := cySet es N a (tP es N a b).reverse (List.replicate es.length 0)
def cyP (es : List Ed) (N c : Nat) : List Int := cySet es N (es.getD c dE).t (tP es N (es.getD c dE).t (es.getD c dE).f).reverse ((List.replicate es.length (0 : Int)).set c 1)
theorem fo_chord {es : List Ed} {N i : Nat} (h : i < (foL es N).length) : isFo es N ((foL es N).getD i 0) = true := (foL_mem.1 (List.mem_of_getElem? (fo_get h))).2
theorem cyG_eq {es : List Ed} {N a b : Nat} (hE : EsOk es N) (hc : conB es N = true) (ha : a < N) (hb : b < N) (hne : a ≠ b) : cyG es N a b = ffL es N (cycS N a b) := by
  have W := way_ok hE hc ha hb
  have hT := tE_ok (N := N) hE
  have h0 : 0 < N := by omega
  obtain ⟨f1, f2, f3⟩ := ff_out hE h0 hc (cycS_len N a b) (cycS_sum ha hb hne)
  have hrev : ∀ {u}, u ∈ (tP es N a b).reverse ↔ u ∈ tP es N a b := List.mem_reverse
  have hno : ∀ p, isFo es N p = false → (cyG es N a b).getD p 0 = 0 := fun p hp => by
    refine (cs_other _ _ p fun u hu e => ?_).trans (by rw [List.getD_eq_getElem?_getD, List.getElem?_replicate]; split <;> rfl)
    have := fo_chord (W.el u (hrev.1 hu))
    rw [e, hp] at this
    cases this
  refine uniq hE h0 hc (by rw [cyG, cs_len, f3]; simp) (fun p hp => by rw [hno p hp, f2 p hp]) fun v hv => ?_
  rw [f1 v hv, cycS_get ha hb hne]
  obtain ⟨g', hg'⟩ : ∃ g', g' = pushes (tE es N) (tS es N a) 1 (tP es N a b) (List.replicate (tE es N).length 0) := ⟨_, rfl⟩
  have hzero : ∀ i, (List.replicate (tE es N).length (0 : Int)).getD i 0 = 0 := fun i => by rw [List.getD_eq_getElem?_getD, List.getElem?_replicate]; split <;> rfl
  have h1 : ∀ i p, (foL es N)[i]? = some p → (cyG es N a b).getD p 0 = g'.getD i 0 := by
    intro i p hp
    by_cases hex : ∃ u ∈ tP es N a b, tEnt es N a u = i
    · obtain ⟨u, hu, rfl⟩ := hex
      have hp' : p = (foL es N).getD (tEnt es N a u) 0 := by rw [List.getD_eq_getElem?_getD, hp]; rfl
      have e1 : (cyG es N a b).getD p 0 = tSgn es N a u := by
        rw [hp']
        refine cs_at _ _ u (fun x y hx hy => W.inj x y (hrev.1 hx) (hrev.1 hy)) (List.pairwise_reverse.2 (W.nd.imp fun h e => h e.symm)) ?_ (hrev.2 hu)
        rw [← hp', List.length_replicate]; exact (foL_mem.1 (List.mem_of_getElem? hp)).1
      have e2 := pushes_at hT W.inv (a := 1) (tP es N a b) (List.replicate (tE es N).length 0) u W.all W.nd (by simp) hu
      rw [hzero] at e2
      obtain ⟨k, hk⟩ := List.getElem?_of_mem (W.all u hu).1
      obtain ⟨e, j, q1, _, _, _, q5, q6⟩ := W.inv.back hT hk (W.all u hu).2
      have hed : (tE es N).getD (tEnt es N a u) dE = e := by rw [tEnt, List.getD_eq_getElem?_getD, q1]; rfl
      rw [e1, hg', tSgn]
      refine Eq.trans ?_ e2.symm
      have hed2 : (tE es N).getD ((tS es N a).ent.getD u 0) dE = e := hed
      rw [hed, hed2]
      rcases q5 with ⟨x, y⟩ | ⟨x, y⟩
      · rw [if_pos x, if_pos y]; rfl
      · rw [if_neg (by omega), if_neg (by omega)]; rfl
    · have e1 : (cyG es N a b).getD p 0 = 0 := by
        refine (cs_other _ _ p fun u hu e => ?_).trans (by rw [List.getD_eq_getElem?_getD, List.getElem?_replicate]; split <;> rfl)
        have h3 := fo_get (W.el u (hrev.1 hu))
        rw [e] at h3
        exact hex ⟨u, hrev.1 hu, (List.getElem?_inj (W.el u (hrev.1 hu)) (foL_nodup es N)).1 (h3.trans hp.symm)⟩
      rw [e1, hg', pushes_other _ _ i (fun u hu e => hex ⟨u, hu, e⟩), hzero]
  rw [out_tree h1 hno v, hg']
  obtain ⟨j, hj⟩ := List.getElem?_of_mem W.mem
  have := outOf_pushes_at hT W.inv (a := 1) j b (List.replicate (tE es N).length 0) hj (fun e => hne e.symm) (by simp) v
  rw [outOf_zero] at this
  exact this.trans (by omega)
theorem cyP_eq {es : List Ed} {N c : Nat} (hE : EsOk es N) (hc : conB es N = true) (hl : c < es.length) (hf : isFo es N c = false) : cyP es N c = cyc es N c := by
  obtain ⟨h1, h2, h3, _, _⟩ := hE.at_ c _ (ed_at hl)
  have W := way_ok hE hc h2 h1
  rw [cyP, cyc, ← cyG_eq hE hc h2 h1 (fun e => h3 e.symm), cyG]
  refine cs_comm _ _ fun u hu e => ?_
  have := fo_chord (W.el u (List.mem_reverse.1 hu))
  rw [e, hf] at this
  cases this
theorem cyc_bnd {es : List Ed} {N c : Nat} (hE : EsOk es N) (hc : conB es N = true) (hl : c < es.length) (hf : isFo es N c = false) (p : Nat) : -1 ≤ (cyc es N c).getD p 0 ∧ (cyc es N c).getD p 0 ≤ 1 := by
  rw [← cyP_eq hE hc hl hf]
  refine cs_bnd _ _ (fun q => ?_) p
  by_cases e : c = q
  · by_cases hq : q < es.length
    · rw [e, getD_set_self (by simpa using hq)]; omega
    · rw [List.getD_eq_getElem?_getD, List.getElem?_eq_none (by simp; omega)]; simp
  · rw [getD_set_ne e, List.getD_eq_getElem?_getD, List.getElem?_replicate]; split <;> simp
end Go.Proofs.YthhmhigddmimjaaGreat
/-
  Plain: energy, moves that lower it, relaxing. No program here.
-/
set_option linter.unusedSimpArgs false
set_option linter.unusedVariables false
namespace Go.Proofs.YthhmhigddmimjaaGreat

def ab (x : Int) : Int := if x < 0 then -x else x
theorem ab_nonneg (x : Int) : 0 ≤ ab x := by unfold ab; split <;> omega
theorem ab_le {x : Int} (h : -30000 ≤ x ∧ x ≤ 30000) : ab x ≤ 30000 := by unfold ab; split <;> omega
/-- The energy of a pipe. -/
def eT (p : GPipe) (q : Int) : Int := p.k * ab q * ab q * ab q
def drp (p : GPipe) (q : Int) : Int := p.k * (q * ab q)
theorem mul_bnd2 {a b A B : Int} (ha : 0 ≤ a ∧ a ≤ A) (hb : 0 ≤ b ∧ b ≤ B) : 0 ≤ a * b ∧ a * b ≤ A * B :=
  ⟨Int.mul_nonneg ha.1 hb.1, Int.le_trans (Int.mul_le_mul_of_nonneg_right ha.2 hb.1) (Int.mul_le_mul_of_nonneg_left hb.2 (by omega))⟩
structure EtB (k q : Int) : Prop where
  a1 : 0 ≤ k * ab q ∧ k * ab q ≤ 30000000
  a2 : 0 ≤ k * ab q * ab q ∧ k * ab q * ab q ≤ 900000000000
  a3 : 0 ≤ k * ab q * ab q * ab q ∧ k * ab q * ab q * ab q ≤ 27000000000000000
theorem et_bnd {k q : Int} (hk : 1 ≤ k ∧ k ≤ 1000) (hq : -30000 ≤ q ∧ q ≤ 30000) : EtB k q := by
  have h1 := mul_bnd2 (a := k) (A := 1000) (b := ab q) (B := 30000) ⟨by omega, hk.2⟩ ⟨ab_nonneg q, ab_le hq⟩
  have h2 := mul_bnd2 h1 (b := ab q) (B := 30000) ⟨ab_nonneg q, ab_le hq⟩
  have h3 := mul_bnd2 h2 (b := ab q) (B := 30000) ⟨ab_nonneg q, ab_le hq⟩
  exact ⟨⟨h1.1, by omega⟩, ⟨h2.1, by omega⟩, ⟨h3.1, by omega⟩⟩
theorem ab_sq (q : Int) : ab q * ab q = q * q := by
  unfold ab; split
  · rw [Int.neg_mul_neg]
  · rfl
/-- As the program computes it. -/
theorem et_other (k q : Int) : k * ab q * q * q = k * ab q * ab q * ab q := by
  rw [Int.mul_assoc (k * ab q) q q, Int.mul_assoc (k * ab q) (ab q) (ab q), ab_sq]
theorem et_mid {k q : Int} (hk : 1 ≤ k ∧ k ≤ 1000) (hq : -30000 ≤ q ∧ q ≤ 30000) : -900000000000 ≤ k * ab q * q ∧ k * ab q * q ≤ 900000000000 := by
  have h := (et_bnd hk hq).a2
  unfold ab at h ⊢
  split
  · rename_i hneg
    rw [if_pos hneg, Int.mul_neg] at h
    omega
  · rename_i hneg
    rw [if_neg hneg] at h
    omega
theorem drp_bnd {k q : Int} (hk : 1 ≤ k ∧ k ≤ 1000) (hq : -30000 ≤ q ∧ q ≤ 30000) : (-900000000 ≤ q * ab q ∧ q * ab q ≤ 900000000) ∧ (-900000000000 ≤ k * (q * ab q) ∧ k * (q * ab q) ≤ 900000000000) ∧ (-30000000 ≤ k * q ∧ k * q ≤ 30000000) := by
  have h1 := mul_bnd2 (a := ab q) (A := 30000) (b := ab q) (B := 30000) ⟨ab_nonneg q, ab_le hq⟩ ⟨ab_nonneg q, ab_le hq⟩
  have h2 := mul_bnd2 (a := k) (A := 1000) ⟨by omega, hk.2⟩ h1
  have h3 := mul_bnd2 (a := k) (A := 1000) (b := ab q) (B := 30000) ⟨by omega, hk.2⟩ ⟨ab_nonneg q, ab_le hq⟩
  by_cases hneg : q < 0
  · have e : ab q = -q := if_pos hneg
    rw [e] at h1 h2 h3 ⊢
    rw [Int.neg_mul] at h1 h2
    rw [Int.mul_neg] at h2 h3
    exact ⟨by omega, by omega, by omega⟩
  · have e : ab q = q := if_neg hneg
    rw [e] at h1 h2 h3 ⊢
    exact ⟨by omega, by omega, by omega⟩
def engTo (n : GNet) (f : List Int) (k : Nat) : Int := sm k fun i => eT (n.pipes.getD i dP) (f.getD i 0)
def eng (n : GNet) (f : List Int) : Int := engTo n f n.pipes.length
theorem pipe_k {n : GNet} (hn : netOk n = true) {i : Nat} (hi : i < n.pipes.length) : 1 ≤ (n.pipes.getD i dP).k ∧ (n.pipes.getD i dP).k ≤ 1000 := by
  have h := (netOk_all hn).2 i (n.pipes.getD i dP) (by rw [List.getD_eq_getElem?_getD, List.getElem?_eq_getElem hi]; rfl)
  exact (pipeOk_all h).2.2.2.1
theorem engTo_succ (n : GNet) (f : List Int) (k : Nat) : engTo n f (k + 1) = engTo n f k + eT (n.pipes.getD k dP) (f.getD k 0) := sm_succ _ _
theorem engTo_bnd {n : GNet} {f : List Int} (hn : netOk n = true) (hf : flOk n f = true) (k : Nat) (hk : k ≤ n.pipes.length) : 0 ≤ engTo n f k ∧ engTo n f k ≤ 27000000000000000 * (k : Int) := by
  induction k with
  | zero => exact ⟨Int.le_refl _, Int.le_refl _⟩
  | succ k ih =>
    have := (et_bnd (pipe_k hn (show k < n.pipes.length by omega)) (flOk_get hf k)).a3
    have ih := ih (by omega)
    rw [engTo_succ]
    unfold eT
    omega
/-- A multiple of a list is added. -/
def addL (f c : List Int) (a : Int) : List Int := (List.range f.length).map fun i => f.getD i 0 + a * c.getD i 0
def addTo (f c : List Int) (a : Int) (k : Nat) : List Int := (List.range k).map fun i => f.getD i 0 + a * c.getD i 0
theorem addL_len (f c : List Int) (a : Int) : (addL f c a).length = f.length := by simp [addL]
theorem addL_get {f c : List Int} {a : Int} {i : Nat} (h : i < f.length) : (addL f c a).getD i 0 = f.getD i 0 + a * c.getD i 0 := by
  rw [addL, List.getD_eq_getElem?_getD, List.getElem?_map, List.getElem?_range h]; rfl
theorem addL_zero {f c : List Int} {a : Int} {i : Nat} (h : c.getD i 0 = 0) : (addL f c a).getD i 0 = f.getD i 0 := by
  by_cases hi : i < f.length
  · rw [addL_get hi, h]; omega
  · rw [List.getD_eq_getElem?_getD, List.getD_eq_getElem?_getD, List.getElem?_eq_none (by rw [addL_len]; omega), List.getElem?_eq_none (by omega)]
def lowB (n : GNet) (f c : List Int) (a : Int) : Bool := flOk n (addL f c a) && decide (eng n (addL f c a) < eng n f)
/-- As the program finds it: only where the cycle goes. -/
def inR (x : Int) : Bool := inB (-30000) x 30000
def chOk (f c : List Int) (a : Int) (k : Nat) : Bool := (List.range k).all fun i => decide (c.getD i 0 = 0) || inR (f.getD i 0 + a * c.getD i 0)
def chTm (n : GNet) (f c : List Int) (a : Int) (i : Nat) : Int := if c.getD i 0 = 0 then 0 else eT (n.pipes.getD i dP) (f.getD i 0 + a * c.getD i 0) - eT (n.pipes.getD i dP) (f.getD i 0)
def chTo (n : GNet) (f c : List Int) (a : Int) (k : Nat) : Int := sm k (chTm n f c a)
theorem chTo_succ (n : GNet) (f c : List Int) (a : Int) (k : Nat) : chTo n f c a (k + 1) = chTo n f c a k + chTm n f c a k := sm_succ _ _
theorem chOk_succ (f c : List Int) (a : Int) (k : Nat) : chOk f c a (k + 1) = (chOk f c a k && (decide (c.getD k 0 = 0) || inR (f.getD k 0 + a * c.getD k 0))) := by
  rw [chOk, List.range_succ, List.all_append]; simp [chOk]
theorem chOk_bad {f c : List Int} {a : Int} {k m : Nat} (hk : k < m) (h : (decide (c.getD k 0 = 0) || inR (f.getD k 0 + a * c.getD k 0)) = false) : chOk f c a m = false := by
  rw [chOk, List.all_eq_false]
  exact ⟨k, List.mem_range.2 hk, by rw [h]; decide⟩
theorem supOk_of {nn : Nat} {zs : List Int} (h1 : zs.length = nn) (h2 : ∀ i, i < nn → inR (zs.getD i 0) = true) : supOk nn zs = true := by
  rw [supOk, Bool.and_eq_true, List.all_eq_true]
  refine ⟨decide_eq_true h1, fun z hz => ?_⟩
  obtain ⟨i, hi⟩ := List.getElem?_of_mem hz
  have := h2 i (by rw [← h1]; exact (List.getElem?_eq_some_iff.1 hi).1)
  rw [List.getD_eq_getElem?_getD, hi] at this
  exact this
theorem supOk_at {nn : Nat} {zs : List Int} (h : supOk nn zs = true) {i : Nat} (hi : i < nn) : inR (zs.getD i 0) = true := by
  obtain ⟨h1, h2⟩ := supOk_all h
  have := h2 (zs.getD i 0) (by rw [List.getD_eq_getElem?_getD, List.getElem?_eq_getElem (by omega)]; exact List.getElem_mem _)
  exact inB_true this
theorem ch_ok {n : GNet} {f c : List Int} {a : Int} (hf : flOk n f = true) : flOk n (addL f c a) = chOk f c a n.pipes.length := by
  have hl := (flOk_all hf).1
  cases h : chOk f c a n.pipes.length with
  | true =>
    refine supOk_of (by rw [addL_len, hl]) fun i hi => ?_
    have h1 := List.all_eq_true.1 h i (List.mem_range.2 hi)
    by_cases hz : c.getD i 0 = 0
    · rw [addL_zero hz]; exact supOk_at hf hi
    · rw [decide_eq_false hz, Bool.false_or] at h1
      rw [addL_get (by omega)]; exact h1
  | false =>
    obtain ⟨i, hi, hb⟩ := List.all_eq_false.1 h
    have hi := List.mem_range.1 hi
    cases h2 : flOk n (addL f c a) with
    | false => rfl
    | true =>
      have := supOk_at h2 hi
      rw [addL_get (by omega)] at this
      rw [this, Bool.or_true] at hb
      exact absurd rfl hb
theorem ch_eng {n : GNet} {f c : List Int} {a : Int} (hf : flOk n f = true) (k : Nat) (hk : k ≤ n.pipes.length) : chTo n f c a k = engTo n (addL f c a) k - engTo n f k := by
  have hl := (flOk_all hf).1
  unfold chTo engTo
  rw [← sm_sub]
  refine sm_congr fun i hi => ?_
  unfold chTm
  split
  · rename_i hz; rw [addL_zero hz]; omega
  · rw [addL_get (by omega)]
theorem low_ch {n : GNet} {f c : List Int} {a : Int} (hf : flOk n f = true) : lowB n f c a = (chOk f c a n.pipes.length && decide (chTo n f c a n.pipes.length < 0)) := by
  rw [lowB, ch_ok hf, ch_eng hf _ (Nat.le_refl _)]
  congr 1
  unfold eng
  rw [decide_eq_decide]
  omega
theorem mul_small {a c : Int} (ha : -32768 ≤ a ∧ a ≤ 32768) (hc : -1 ≤ c ∧ c ≤ 1) : -32768 ≤ a * c ∧ a * c ≤ 32768 := by
  have : c = -1 ∨ c = 0 ∨ c = 1 := by omega
  rcases this with e | e | e <;> subst e <;> omega
theorem chTm_bnd {n : GNet} {f c : List Int} {a : Int} (hn : netOk n = true) (hf : flOk n f = true) {k : Nat} (hk : k < n.pipes.length) (h : (decide (c.getD k 0 = 0) || inR (f.getD k 0 + a * c.getD k 0)) = true) :
    -27000000000000000 ≤ chTm n f c a k ∧ chTm n f c a k ≤ 27000000000000000 := by
  unfold chTm
  split
  · omega
  · rename_i hz
    rw [decide_eq_false hz, Bool.false_or] at h
    have h1 := (et_bnd (pipe_k hn hk) (inB_iff.1 h)).a3
    have h2 := (et_bnd (pipe_k hn hk) (flOk_get hf k)).a3
    unfold eT
    omega
theorem chTo_bnd {n : GNet} {f c : List Int} {a : Int} (hn : netOk n = true) (hf : flOk n f = true) (k : Nat) (hk : k ≤ n.pipes.length) (h : chOk f c a k = true) :
    -27000000000000000 * (k : Int) ≤ chTo n f c a k ∧ chTo n f c a k ≤ 27000000000000000 * (k : Int) := by
  induction k with
  | zero => exact ⟨Int.le_refl _, Int.le_refl _⟩
  | succ k ih =>
    rw [chOk_succ, Bool.and_eq_true] at h
    have ih := ih (by omega) h.1
    have := chTm_bnd hn hf (show k < n.pipes.length by omega) h.2
    rw [chTo_succ]
    omega
/- Relaxing. -/
def mv (n : GNet) (f c : List Int) (s : Int) : Option (List Int) := if lowB n f c s = true then some (addL f c s) else if lowB n f c (-s) = true then some (addL f c (-s)) else none
theorem mv_ok {n : GNet} {f c g : List Int} {s : Int} (h : mv n f c s = some g) : flOk n g = true := by
  unfold mv at h
  split at h
  · rename_i hl
    injection h with h
    rw [← h]
    exact ((Bool.and_eq_true _ _).mp hl).1
  · split at h
    · rename_i hl
      injection h with h
      rw [← h]
      exact ((Bool.and_eq_true _ _).mp hl).1
    · cases h
def passR (n : GNet) (s : Int) : List (List Int) → List Int → Nat → List Int × Nat
  | [], f, _ => (f, 0)
  | c :: cs, f, left => if left = 0 then (f, 0) else match mv n f c s with
    | some g => ((passR n s cs g (left - 1)).1, (passR n s cs g (left - 1)).2 + 1)
    | none => passR n s cs f left
theorem pass_out (n : GNet) (s : Int) (cs : List (List Int)) (f : List Int) : passR n s cs f 0 = (f, 0) := by cases cs <;> simp [passR]
theorem pass_no {n : GNet} {s : Int} {c : List Int} {cs : List (List Int)} {f : List Int} {left : Nat} (h : mv n f c s = none) : passR n s (c :: cs) f left = passR n s cs f left := by
  by_cases h0 : left = 0
  · rw [h0, pass_out, pass_out]
  · rw [passR, if_neg h0, h]
theorem pass_yes {n : GNet} {s : Int} {c g : List Int} {cs : List (List Int)} {f : List Int} {left : Nat} (h0 : left ≠ 0) (h : mv n f c s = some g) : passR n s (c :: cs) f left = ((passR n s cs g (left - 1)).1, (passR n s cs g (left - 1)).2 + 1) := by
  rw [passR, if_neg h0, h]
theorem pass_le (n : GNet) (s : Int) (cs : List (List Int)) : ∀ f left, (passR n s cs f left).2 ≤ left := by
  induction cs with
  | nil => intro f left; simp [passR]
  | cons c cs ih =>
    intro f left
    by_cases h0 : left = 0
    · rw [h0, pass_out]; exact Nat.le_refl _
    · cases h : mv n f c s with
      | none => rw [pass_no h]; exact ih f left
      | some g => rw [pass_yes h0 h]; have := ih g (left - 1); simp only; omega
theorem pass_ok (n : GNet) (s : Int) (cs : List (List Int)) : ∀ f left, flOk n f = true → flOk n (passR n s cs f left).1 = true := by
  induction cs with
  | nil => intro f left h; exact h
  | cons c cs ih =>
    intro f left hf
    by_cases h0 : left = 0
    · rw [h0, pass_out]; exact hf
    · cases h : mv n f c s with
      | none => rw [pass_no h]; exact ih f left hf
      | some g => rw [pass_yes h0 h]; exact ih g _ (mv_ok h)
def rlx (n : GNet) (cs : List (List Int)) (s left : Nat) (f : List Int) : List Int × Nat :=
  if h : s = 0 ∨ left = 0 then (f, left) else
    if h2 : (passR n s cs f left).2 = 0 then rlx n cs (s / 2) left (passR n s cs f left).1 else rlx n cs s (left - (passR n s cs f left).2) (passR n s cs f left).1
termination_by s + left
decreasing_by
  · omega
  · have := pass_le n s cs f left; omega
theorem rlx_end {n : GNet} {cs : List (List Int)} {s left : Nat} {f : List Int} (h : s = 0 ∨ left = 0) : rlx n cs s left f = (f, left) := by rw [rlx, dif_pos h]
theorem rlx_half {n : GNet} {cs : List (List Int)} {s left : Nat} {f : List Int} (h : ¬ (s = 0 ∨ left = 0)) (h2 : (passR n s cs f left).2 = 0) : rlx n cs s left f = rlx n cs (s / 2) left (passR n s cs f left).1 := by rw [rlx, dif_neg h, dif_pos h2]
theorem rlx_more {n : GNet} {cs : List (List Int)} {s left : Nat} {f : List Int} (h : ¬ (s = 0 ∨ left = 0)) (h2 : (passR n s cs f left).2 ≠ 0) : rlx n cs s left f = rlx n cs s (left - (passR n s cs f left).2) (passR n s cs f left).1 := by rw [rlx, dif_neg h, dif_neg h2]
theorem rlx_ok (n : GNet) (cs : List (List Int)) : ∀ m s left f, s + left ≤ m → flOk n f = true → flOk n (rlx n cs s left f).1 = true ∧ (rlx n cs s left f).2 ≤ left := by
  intro m
  induction m with
  | zero => intro s left f h hf; rw [rlx_end (by omega)]; exact ⟨hf, Nat.le_refl _⟩
  | succ m ih =>
    intro s left f h hf
    by_cases h0 : s = 0 ∨ left = 0
    · rw [rlx_end h0]; exact ⟨hf, Nat.le_refl _⟩
    · have hp := pass_ok n s cs f left hf
      have hq := pass_le n s cs f left
      by_cases h2 : (passR n s cs f left).2 = 0
      · rw [rlx_half h0 h2]; exact ih _ _ _ (by omega) hp
      · rw [rlx_more h0 h2]
        obtain ⟨a, b⟩ := ih s (left - (passR n s cs f left).2) _ (by omega) hp
        exact ⟨a, by omega⟩
/-- What follows within a pass: the rest of the cycles, the flows, the moves that are left, and whether one was made. -/
def rest (n : GNet) (all cs : List (List Int)) (s left : Nat) (f : List Int) (moved : Bool) : List Int × Nat :=
  if moved = true ∨ (passR n s cs f left).2 ≠ 0 then rlx n all s (left - (passR n s cs f left).2) (passR n s cs f left).1 else rlx n all (s / 2) left (passR n s cs f left).1
theorem rest_out {n : GNet} {all cs : List (List Int)} {s : Nat} {f : List Int} {moved : Bool} : rest n all cs s 0 f moved = (f, 0) := by
  unfold rest
  rw [pass_out]
  split
  · rw [rlx_end (by omega)]; rfl
  · rw [rlx_end (by omega)]
theorem rest_no {n : GNet} {all cs : List (List Int)} {c : List Int} {s left : Nat} {f : List Int} {moved : Bool} (h : mv n f c s = none) : rest n all (c :: cs) s left f moved = rest n all cs s left f moved := by
  unfold rest; rw [pass_no h]
theorem rest_yes {n : GNet} {all cs : List (List Int)} {c g : List Int} {s left : Nat} {f : List Int} {moved : Bool} (h0 : left ≠ 0) (h : mv n f c s = some g) : rest n all (c :: cs) s left f moved = rest n all cs s (left - 1) g true := by
  unfold rest
  rw [pass_yes h0 h, if_pos (Or.inr (by simp)), if_pos (Or.inl rfl)]
  simp only
  rw [show left - ((passR n (↑s) cs g (left - 1)).2 + 1) = left - 1 - (passR n (↑s) cs g (left - 1)).2 by omega]
theorem rest_end {n : GNet} {all : List (List Int)} {s left : Nat} {f : List Int} {moved : Bool} : rest n all [] s left f moved = if moved = true then rlx n all s left f else rlx n all (s / 2) left f := by
  unfold rest
  cases moved <;> simp [passR]
theorem rest_start {n : GNet} {all : List (List Int)} {s left : Nat} {f : List Int} (h : s ≠ 0) : rest n all all s left f false = rlx n all s left f := by
  by_cases h0 : left = 0
  · subst h0; rw [rest_out, rlx_end (by omega)]
  · unfold rest
    by_cases h2 : (passR n s all f left).2 = 0
    · rw [if_neg (by simp [h2]), rlx_half (by omega) h2]
    · rw [if_pos (Or.inr h2), rlx_more (by omega) h2]
/- The operating point. -/
def cycB (n : GNet) : List (List Int) := (chL (eds n.pipes) n.nodes.length).map (cyc (eds n.pipes) n.nodes.length)
def ocCode (n : GNet) (sup : List Int) : Int := if suCode n sup = 0 then (if conB (eds n.pipes) n.nodes.length = true then 0 else 5) else suCode n sup
def foCode (n : GNet) (sup : List Int) : Int := if evCode n sup = 0 then (if flOk n (ffL (eds n.pipes) n.nodes.length sup) = true then 0 else 2) else evCode n sup
def solR (n : GNet) (sup : List Int) : List Int × Nat := rlx n (cycB n) 32768 5000 (ffL (eds n.pipes) n.nodes.length sup)
def solF (n : GNet) (sup : List Int) : List Int := (solR n sup).1
def lvX (n : GNet) (fl : List Int) (v : Nat) : Int := if (((eds n.pipes)).getD (entZ (eds n.pipes) n.nodes.length v) dE).f = v then drp (n.pipes.getD (entZ (eds n.pipes) n.nodes.length v) dP) (fl.getD (entZ (eds n.pipes) n.nodes.length v) 0) else -(drp (n.pipes.getD (entZ (eds n.pipes) n.nodes.length v) dP) (fl.getD (entZ (eds n.pipes) n.nodes.length v) 0))
def lvOne (n : GNet) (fl : List Int) (out : List Int) (v : Nat) : List Int := out.set v (out.getD (back (eds n.pipes) (sZ (eds n.pipes) n.nodes.length) v) 0 + lvX n fl v)
def lvTo (n : GNet) (fl : List Int) (lev : Int) (k : Nat) : List Int := (((ordZ (eds n.pipes) n.nodes.length 0).drop 1).take k).foldl (lvOne n fl) ((List.replicate n.nodes.length (0 : Int)).set 0 lev)
def lvL (n : GNet) (fl : List Int) (lev : Int) : List Int := lvTo n fl lev (n.nodes.length - 1)
theorem lvTo_step {n : GNet} {fl : List Int} {lev : Int} {k v : Nat} (h : (ordZ (eds n.pipes) n.nodes.length 0)[k + 1]? = some v) : lvTo n fl lev (k + 1) = lvOne n fl (lvTo n fl lev k) v := by
  rw [lvTo, List.take_add_one, show ((ordZ (eds n.pipes) n.nodes.length 0).drop 1)[k]? = some v by rw [List.getElem?_drop, Nat.add_comm]; exact h, Option.toList_some, List.foldl_append]; rfl
theorem lv_len (n : GNet) (fl : List Int) (lev : Int) (k : Nat) : (lvTo n fl lev k).length = n.nodes.length := by
  induction k with
  | zero => simp [lvTo]
  | succ k ih =>
    cases h : (ordZ (eds n.pipes) n.nodes.length 0)[k + 1]? with
    | none =>
      have : lvTo n fl lev (k + 1) = lvTo n fl lev k := by
        rw [lvTo, List.take_add_one, show ((ordZ (eds n.pipes) n.nodes.length 0).drop 1)[k]? = none by rw [List.getElem?_drop, Nat.add_comm]; exact h]; simp [lvTo]
      rw [this]; exact ih
    | some v => rw [lvTo_step h]; simp [lvOne, ih]
def nodeD (n : GNet) (i : Nat) : GNode := n.nodes.getD i ⟨⟨#[]⟩, 0, 0⟩
def rLo (n : GNet) (lv : List Int) : Nat → Int
  | 0 => (nodeD n 0).low
  | k + 1 => max (rLo n lv k) ((nodeD n k).low - lv.getD k 0)
def rHi (n : GNet) (lv : List Int) : Nat → Int
  | 0 => (nodeD n 0).high
  | k + 1 => min (rHi n lv k) ((nodeD n k).high - lv.getD k 0)
def opLo (n : GNet) (fl : List Int) : Int := rLo n (lvL n fl 0) n.nodes.length
def opHi (n : GNet) (fl : List Int) : Int := rHi n (lvL n fl 0) n.nodes.length
def opCode (n : GNet) (sup : List Int) : Int := if ocCode n sup = 0 then (if foCode n sup = 0 then (if limOk n (solF n sup) = true then (if opHi n (solF n sup) < opLo n (solF n sup) then 7 else 0) else 7) else foCode n sup) else ocCode n sup
def opStep (n : GNet) (sup : List Int) : Int := if ocCode n sup = 0 then (if foCode n sup = 0 then (if limOk n (solF n sup) = true then (if opHi n (solF n sup) < opLo n (solF n sup) then 3 else 0) else 2) else 1) else 0
def opFl (n : GNet) (sup : List Int) : List Int := if opCode n sup = 0 then solF n sup else []
def opLv (n : GNet) (sup : List Int) (top : Bool) : List Int := if opCode n sup = 0 then lvL n (solF n sup) (if top = true then opHi n (solF n sup) else opLo n (solF n sup)) else []
end Go.Proofs.YthhmhigddmimjaaGreat
