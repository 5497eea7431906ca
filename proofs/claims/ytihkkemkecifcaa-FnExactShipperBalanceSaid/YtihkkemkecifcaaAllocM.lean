/-
  Plain functions: what orders get of readings. No program here.
-/
import Derived.Test.YtihkkemkecifcaaShareM
import Derived.Test.YtihkkemkecifcaaRds
namespace Go.Proofs.Ytihkkemkecifcaa

def wAt (os : List GOrd) (y : GRd) : List Int := wts os y.node (sgn y.amount)
def addS (a b : List Int) (s : Int) : List Int := List.zipWith (fun x y => x + s * y) a b
def alStep (os : List GOrd) (g : List Int) (y : GRd) : List Int := if (wAt os y).sum = 0 then g else addS g (shares (sgn y.amount * y.amount) (wAt os y)) (sgn y.amount)
def alTo (os : List GOrd) (rs : List GRd) (k : Nat) : List Int := (rs.take k).foldl (alStep os) (List.replicate os.length 0)
def al (os : List GOrd) (rs : List GRd) : List Int := alTo os rs rs.length
def unTo (os : List GOrd) (rs : List GRd) : Nat → List Int
  | 0 => []
  | k + 1 => if (wAt os (rs.getD k ⟨0, 0⟩)).sum = 0 then unTo os rs k ++ [(k : Int)] else unTo os rs k
theorem sgn_cases (a : Int) : sgn a = 1 ∨ sgn a = -1 := by unfold sgn; split <;> simp
theorem sgn_abs (a : Int) : 0 ≤ sgn a * a := by unfold sgn; split <;> omega
theorem wAt_len (os : List GOrd) (y : GRd) : (wAt os y).length = os.length := by simp [wAt, wts]
theorem wAt_bnd {nn : Int} {os : List GOrd} (h : ordsOk nn os = true) (y : GRd) : ∀ z ∈ wAt os y, 0 ≤ z ∧ z ≤ 30000 := wts_bnd h (sgn_cases _)
theorem wAt_get {os : List GOrd} {y : GRd} {p : Nat} {x : GOrd} (hx : os[p]? = some x) : (wAt os y).getD p 0 = wt y.node (sgn y.amount) x := by
  rw [wAt, wts, List.getD_eq_getElem?_getD, List.getElem?_map, hx]; rfl
theorem sum_pos_of {l : List Int} (h : ∀ z ∈ l, 0 ≤ z) (h0 : ¬ l.sum = 0) : 0 < l.sum := by
  have : 0 ≤ l.sum := by
    clear h0
    induction l with
    | nil => exact Int.le_refl _
    | cons x l ih =>
      have h1 := h x (List.mem_cons_self ..)
      have h2 := ih (fun z hz => h z (List.mem_cons_of_mem _ hz))
      rw [List.sum_cons]; omega
  omega
theorem sum_zero_all {l : List Int} (h : ∀ z ∈ l, 0 ≤ z) : l.sum = 0 ↔ ∀ z ∈ l, z = 0 := by
  induction l with
  | nil => simp
  | cons x l ih =>
    have h1 := h x (List.mem_cons_self ..)
    have ih := ih (fun z hz => h z (List.mem_cons_of_mem _ hz))
    have h2 : 0 ≤ l.sum := by
      by_cases e : l.sum = 0
      · omega
      · exact Int.le_of_lt (sum_pos_of (fun z hz => h z (List.mem_cons_of_mem _ hz)) e)
    rw [List.sum_cons]
    constructor
    · intro e z hz
      rcases List.mem_cons.1 hz with rfl | hz
      · omega
      · exact ih.1 (by omega) z hz
    · intro e
      have e1 := e x (List.mem_cons_self ..)
      have e2 := ih.2 (fun z hz => e z (List.mem_cons_of_mem _ hz))
      omega
/-- No place has a weight exactly if the weights have the sum 0. -/
theorem pos_nil {ws : List Int} (h : ∀ z ∈ ws, 0 ≤ z) : pos ws = [] ↔ ws.sum = 0 := by
  rw [sum_zero_all h]
  constructor
  · intro e z hz
    obtain ⟨i, hi, rfl⟩ := List.mem_iff_getElem.1 hz
    have h1 := h _ hz
    by_cases h0 : 0 < ws.getD i 0
    · have := mem_pos.2 ⟨hi, h0⟩
      rw [e] at this; cases this
    · have e2 : ws.getD i 0 = ws[i] := by simp [hi]
      omega
  · intro e
    rw [List.eq_nil_iff_forall_not_mem]
    intro i hi
    obtain ⟨h1, h2⟩ := mem_pos.1 hi
    have := e (ws.getD i 0) (by simp [h1])
    omega
theorem addS_len {a b : List Int} {s : Int} (h : b.length = a.length) : (addS a b s).length = a.length := by simp [addS, h]
theorem addS_getD {a b : List Int} (s : Int) (h : b.length = a.length) (i : Nat) : (addS a b s).getD i 0 = a.getD i 0 + s * b.getD i 0 := by
  rw [addS, List.getD_eq_getElem?_getD, List.getElem?_zipWith]
  by_cases hi : i < a.length
  · have hb : i < b.length := by omega
    simp [hi, hb]
  · rw [List.getElem?_eq_none (by omega)]
    have e1 : a.getD i 0 = 0 := by rw [List.getD_eq_getElem?_getD, List.getElem?_eq_none (by omega)]; rfl
    have e2 : b.getD i 0 = 0 := by rw [List.getD_eq_getElem?_getD, List.getElem?_eq_none (by omega)]; rfl
    rw [e1, e2]; simp
theorem alTo_step {os : List GOrd} {rs : List GRd} {k : Nat} {y : GRd} (hy : rs[k]? = some y) : alTo os rs (k + 1) = alStep os (alTo os rs k) y := by
  rw [alTo, alTo, foldl_take_succ _ _ _ _ _ hy]
theorem shares_len {nn : Int} {os : List GOrd} (h : ordsOk nn os = true) {y : GRd} {t : Int} (h0 : ¬ (wAt os y).sum = 0) : (shares t (wAt os y)).length = os.length := by
  have hw := fun z hz => (wAt_bnd h y z hz).1
  rw [(shares_cmp hw (sum_pos_of hw h0)).2.1, wAt_len]
theorem alTo_len {nn : Int} {os : List GOrd} (h : ordsOk nn os = true) (rs : List GRd) (k : Nat) : (alTo os rs k).length = os.length := by
  rw [alTo]
  generalize rs.take k = l
  have key : ∀ (l : List GRd) (g : List Int), g.length = os.length → (l.foldl (alStep os) g).length = os.length := by
    intro l
    induction l with
    | nil => intro g hg; exact hg
    | cons y l ih =>
      intro g hg
      rw [List.foldl_cons]
      refine ih _ ?_
      rw [alStep]
      split
      · exact hg
      · rename_i h0
        rw [addS_len (by rw [shares_len h h0, hg]), hg]
  exact key l _ (by simp)
/-- An order that no reading has matched so far has got nothing. -/
theorem alTo_none {nn : Int} {os : List GOrd} (h : ordsOk nn os = true) (rs : List GRd) (p : Nat) (hp : p < os.length) (k : Nat) (hno : ∀ j y, j < k → rs[j]? = some y → (wAt os y).getD p 0 ≤ 0) : (alTo os rs k).getD p 0 = 0 := by
  induction k with
  | zero => show (List.replicate os.length (0 : Int)).getD p 0 = 0; simp [hp]
  | succ k ih =>
    have ih := ih (fun j y hj hy => hno j y (by omega) hy)
    cases hy : rs[k]? with
    | none =>
      have hl : rs.length ≤ k := List.getElem?_eq_none_iff.1 hy
      rw [alTo, List.take_of_length_le (by omega)]
      rw [alTo, List.take_of_length_le hl] at ih
      exact ih
    | some y =>
      rw [alTo_step hy, alStep]
      split
      · exact ih
      · rename_i h0
        have hw := fun z hz => (wAt_bnd h y z hz).1
        have h1 := (shares_cmp (t := sgn y.amount * y.amount) hw (sum_pos_of hw h0)).2.2 p (by rw [wAt_len]; exact hp) (hno k y (by omega) hy)
        rw [addS_getD _ (by rw [shares_len h h0, alTo_len h]), ih, h1]; simp
theorem wt_pos {node sg : Int} {x : GOrd} (h : 0 < wt node sg x) : x.node = node ∧ 0 < sg * x.amount := by
  unfold wt at h
  split at h
  · rename_i e; exact ⟨e, by omega⟩
  · omega
theorem sgn_same {a b c : Int} (h1 : 0 < sgn a * c) (h2 : 0 < sgn b * c) : sgn a = sgn b := by
  rcases sgn_cases a with e | e <;> rcases sgn_cases b with e' | e' <;> rw [e] at h1 ⊢ <;> rw [e'] at h2 ⊢ <;> omega
/-- Of two readings only one matches an order. -/
theorem one_match {nn : Int} {rs : List GRd} (h : rdsOk nn rs = true) {j k : Nat} (hjk : j < k) {y z : GRd} (hy : rs[j]? = some y) (hz : rs[k]? = some z) {x : GOrd} (h1 : 0 < wt y.node (sgn y.amount) x) (h2 : 0 < wt z.node (sgn z.amount) x) : False := by
  obtain ⟨n1, s1⟩ := wt_pos h1
  obtain ⟨n2, s2⟩ := wt_pos h2
  have hs := sgn_same s1 s2
  have hky := (rdOk_all ((rdsOk_all h).2 j y hy)).2.2
  have hkz := (rdOk_all ((rdsOk_all h).2 k z hz)).2.2
  have hk := (List.getElem?_eq_some_iff.1 hz).1
  have hat : rdAt nn rs k z = true := by
    simp only [rdsOk, Bool.and_eq_true] at h
    have := List.all_eq_true.1 h.2 k (List.mem_range.2 hk)
    rw [hz] at this
    exact this
  rw [rdAt, Bool.and_eq_true, Bool.not_eq_true', List.any_eq_false] at hat
  have hmem : y ∈ rs.take k := by
    refine List.mem_iff_getElem?.2 ⟨j, ?_⟩
    rw [List.getElem?_take, if_pos hjk]; exact hy
  refine hat.2 y hmem ?_
  rw [rdClash, Bool.and_eq_true]
  refine ⟨by simp [← n1, ← n2], ?_⟩
  unfold sgn at hs
  split at hs <;> split at hs
  · simp; omega
  · simp at hs
  · simp at hs
  · simp; omega
theorem alTo_place {nn nn' : Int} {os : List GOrd} {rs : List GRd} (h : ordsOk nn os = true) (hr : rdsOk nn' rs = true) {k : Nat} {y : GRd} (hy : rs[k]? = some y) {p : Nat} (hp : p ∈ pos (wAt os y)) : (alTo os rs k).getD p 0 = 0 := by
  obtain ⟨h1, h2⟩ := mem_pos.1 hp
  rw [wAt_len] at h1
  obtain ⟨x, hx⟩ : ∃ x, os[p]? = some x := ⟨_, List.getElem?_eq_getElem h1⟩
  refine alTo_none h rs p h1 k fun j z hj hz => ?_
  rw [wAt_get hx]
  rw [wAt_get hx] at h2
  by_cases e : 0 < wt z.node (sgn z.amount) x
  · exact (one_match hr hj hz hy e h2).elim
  · omega
/-- The shares are laid at the places. -/
def layTo (g : List Int) (ps : List Nat) (vs : List Int) (s : Int) : Nat → List Int
  | 0 => g
  | i + 1 => (layTo g ps vs s i).set (ps.getD i 0) (s * vs.getD i 0)
theorem layTo_len (g : List Int) (ps : List Nat) (vs : List Int) (s : Int) (i : Nat) : (layTo g ps vs s i).length = g.length := by
  induction i with
  | zero => rfl
  | succ i ih => rw [layTo, List.length_set, ih]
theorem layTo_out {g : List Int} {ps : List Nat} {vs : List Int} {s : Int} {p : Nat} (i : Nat) (h : ∀ j, j < i → ps.getD j 0 ≠ p) : (layTo g ps vs s i).getD p 0 = g.getD p 0 := by
  induction i with
  | zero => rfl
  | succ i ih => rw [layTo, set_getD_ne (h i (by omega)), ih (fun j hj => h j (by omega))]
theorem layTo_in {g : List Int} {ps : List Nat} {vs : List Int} {s : Int} {j : Nat} (hps : ∀ a b, a < b → b < ps.length → ps.getD a 0 < ps.getD b 0) (hin : ∀ a, a < ps.length → ps.getD a 0 < g.length) (i : Nat) (hi : i ≤ ps.length) (hj : j < i) : (layTo g ps vs s i).getD (ps.getD j 0) 0 = s * vs.getD j 0 := by
  induction i with
  | zero => omega
  | succ i ih =>
    rw [layTo]
    by_cases e : j = i
    · subst e
      rw [set_getD_self (by rw [layTo_len]; exact hin j (by omega))]
    · rw [set_getD_ne (by have := hps j i (by omega) (by omega); omega)]
      exact ih (by omega) (by omega)
theorem pos_getD {ws : List Int} {j : Nat} (hj : j < (pos ws).length) : (pos ws).getD j 0 = (pos ws)[j] := by simp [hj]
theorem lay_all {g ws sh : List Int} (s : Int) (hg : g.length = ws.length) (hs : sh.length = ws.length) (h0 : ∀ p ∈ pos ws, g.getD p 0 = 0) (hz : ∀ i, i < ws.length → ws.getD i 0 ≤ 0 → sh.getD i 0 = 0) : layTo g (pos ws) (cmp ws sh) s (pos ws).length = addS g sh s := by
  apply List.ext_getElem?
  intro p
  have hl : (layTo g (pos ws) (cmp ws sh) s (pos ws).length).length = (addS g sh s).length := by rw [layTo_len, addS_len (by omega)]
  by_cases hp : p < g.length
  · rw [get_of_lt (by rw [layTo_len]; exact hp), get_of_lt (by rw [addS_len (by omega)]; exact hp)]
    congr 1
    rw [addS_getD s (by omega)]
    by_cases hw : 0 < ws.getD p 0
    · have hm := mem_pos.2 ⟨by omega, hw⟩
      obtain ⟨j, hj, rfl⟩ := List.mem_iff_getElem.1 hm
      rw [h0 _ hm, ← pos_getD hj, layTo_in (fun a b hab hb => by rw [pos_getD (by omega), pos_getD hb]; exact pos_get_lt hb hab) (fun a ha => by rw [pos_getD ha]; have := (mem_pos.1 (List.getElem_mem ha)).1; omega) _ (Nat.le_refl _) hj, cmp_getD hj, pos_getD hj]
      omega
    · rw [layTo_out _ (fun j hj e => ?_), hz p (by omega) (by omega)]
      · simp
      · rw [pos_getD hj] at e
        have := (mem_pos.1 (List.getElem_mem hj)).2
        rw [e] at this
        exact hw this
  · rw [List.getElem?_eq_none (by rw [layTo_len]; omega), List.getElem?_eq_none (by rw [← hl, layTo_len]; omega)]
/-- One reading, as the program deals it. -/
theorem al_places {nn nn' : Int} {os : List GOrd} {rs : List GRd} (h : ordsOk nn os = true) (hr : rdsOk nn' rs = true) {k : Nat} {y : GRd} (hy : rs[k]? = some y) (h0 : ¬ (wAt os y).sum = 0) :
    layTo (alTo os rs k) (pos (wAt os y)) (shares (sgn y.amount * y.amount) (cmp (wAt os y) (wAt os y))) (sgn y.amount) (pos (wAt os y)).length = alTo os rs (k + 1) := by
  have hw := fun z hz => (wAt_bnd h y z hz).1
  obtain ⟨c1, c2, c3⟩ := shares_cmp (t := sgn y.amount * y.amount) hw (sum_pos_of hw h0)
  rw [alTo_step hy, alStep, if_neg h0, ← c1]
  exact lay_all _ (by rw [alTo_len h, wAt_len]) (by rw [c2]) (fun p hp => alTo_place h hr hy hp) c3
/-- The places among the first k. -/
def posTo (ws : List Int) (k : Nat) : List Nat := (List.range k).filter fun i => decide (0 < ws.getD i 0)
theorem posTo_hit {ws : List Int} {k : Nat} (h : 0 < ws.getD k 0) : posTo ws (k + 1) = posTo ws k ++ [k] := by
  rw [posTo, List.range_succ, List.filter_append, List.filter_cons, if_pos (decide_eq_true h), List.filter_nil]; rfl
theorem posTo_miss {ws : List Int} {k : Nat} (h : ¬ 0 < ws.getD k 0) : posTo ws (k + 1) = posTo ws k := by
  rw [posTo, List.range_succ, List.filter_append, List.filter_cons, if_neg (by simpa using h), List.filter_nil, List.append_nil]; rfl
theorem posTo_len (ws : List Int) (k : Nat) : (posTo ws k).length ≤ k := by
  have := List.length_filter_le (fun i => decide (0 < ws.getD i 0)) (List.range k)
  simpa [posTo] using this
theorem posTo_full (ws : List Int) : posTo ws ws.length = pos ws := rfl
end Go.Proofs.Ytihkkemkecifcaa
