/-
  Plain functions: shares of a total, with and without the weights that are 0. No program here.
-/
import Derived.Test.YtihkkemkecifcaaWts
namespace Go.Proofs.Ytihkkemkecifcaa

/-- The first index of the greatest number among the first k + 1. -/
def fmTo (r : List Int) : Nat → Nat
  | 0 => 0
  | k + 1 => if r.getD (fmTo r k) 0 < r.getD (k + 1) 0 then k + 1 else fmTo r k
def fm (r : List Int) : Nat := fmTo r (r.length - 1)
structure IsFm (r : List Int) (b : Nat) : Prop where
  lt : b < r.length
  le : ∀ i, i < r.length → r.getD i 0 ≤ r.getD b 0
  fst : ∀ i, i < b → r.getD i 0 < r.getD b 0
theorem IsFm.uniq {r : List Int} {a b : Nat} (h : IsFm r a) (k : IsFm r b) : a = b := by
  rcases Nat.lt_trichotomy a b with e | e | e
  · have h1 := k.fst a e
    have h2 := h.le b k.lt
    omega
  · exact e
  · have h1 := h.fst b e
    have h2 := k.le a h.lt
    omega
theorem fmTo_le (r : List Int) (k : Nat) : fmTo r k ≤ k := by
  induction k with
  | zero => exact Nat.le_refl _
  | succ k ih => rw [fmTo]; split <;> omega
theorem fmTo_spec (r : List Int) (k : Nat) : (∀ i, i ≤ k → r.getD i 0 ≤ r.getD (fmTo r k) 0) ∧ ∀ i, i < fmTo r k → r.getD i 0 < r.getD (fmTo r k) 0 := by
  induction k with
  | zero =>
    refine ⟨fun i hi => ?_, fun i hi => absurd hi (by simp [fmTo])⟩
    have : i = 0 := by omega
    rw [this]; exact Int.le_refl _
  | succ k ih =>
    rw [fmTo]
    split
    · rename_i h
      refine ⟨fun i hi => ?_, fun i hi => ?_⟩
      · by_cases e : i = k + 1
        · rw [e]; exact Int.le_refl _
        · have := ih.1 i (by omega); omega
      · have := ih.1 i (by omega); omega
    · rename_i h
      refine ⟨fun i hi => ?_, ih.2⟩
      by_cases e : i = k + 1
      · rw [e]; omega
      · exact ih.1 i (by omega)
theorem fm_is {r : List Int} (h : 0 < r.length) : IsFm r (fm r) := by
  have h1 := fmTo_le r (r.length - 1)
  have h2 := fmTo_spec r (r.length - 1)
  exact ⟨by rw [fm]; omega, fun i hi => h2.1 i (by omega), h2.2⟩
def shStep (s : List Int × List Int) : List Int × List Int := (s.1.set (fm s.2) (s.1.getD (fm s.2) 0 + 1), s.2.set (fm s.2) (-1))
def shIter : Nat → List Int × List Int → List Int × List Int
  | 0, s => s
  | k + 1, s => shIter k (shStep s)
theorem shIter_succ (k : Nat) (s : List Int × List Int) : shIter (k + 1) s = shStep (shIter k s) := by
  induction k generalizing s with
  | zero => rfl
  | succ k ih => rw [shIter, ih]; rfl
def shOut (t S : Int) (ws : List Int) : List Int := ws.map fun w => t * w / S
def shRest (t S : Int) (ws : List Int) : List Int := ws.map fun w => t * w % S
def shLeft (t S : Int) (ws : List Int) : Int := t - (shOut t S ws).sum
def shares (t : Int) (ws : List Int) : List Int := (shIter (shLeft t ws.sum ws).toNat (shOut t ws.sum ws, shRest t ws.sum ws)).1
/-- The places of the weights that are greater than 0, and what stands there. -/
def pos (ws : List Int) : List Nat := (List.range ws.length).filter fun i => decide (0 < ws.getD i 0)
def cmp (ws xs : List Int) : List Int := (pos ws).map fun i => xs.getD i 0
theorem mem_pos {ws : List Int} {i : Nat} : i ∈ pos ws ↔ i < ws.length ∧ 0 < ws.getD i 0 := by
  simp [pos]
theorem pos_lt (ws : List Int) : (pos ws).Pairwise (· < ·) := List.pairwise_lt_range.filter _
theorem pos_get_lt {ws : List Int} {i j : Nat} (hj : j < (pos ws).length) (hi : i < j) : (pos ws)[i]'(by omega) < (pos ws)[j] := List.pairwise_iff_getElem.1 (pos_lt ws) i j (by omega) hj hi
theorem sum_filter {f : Nat → Int} {p : Nat → Bool} (l : List Nat) (h : ∀ i ∈ l, p i = false → f i = 0) : ((l.filter p).map f).sum = (l.map f).sum := by
  induction l with
  | nil => rfl
  | cons x l ih =>
    have h1 := ih (fun i hi => h i (List.mem_cons_of_mem _ hi))
    cases e : p x with
    | true => rw [List.filter_cons, if_pos e, List.map_cons, List.map_cons, List.sum_cons, List.sum_cons, h1]
    | false => rw [List.filter_cons, if_neg (by simp [e]), List.map_cons, List.sum_cons, h1, h x (List.mem_cons_self ..) e]; omega
theorem range_map_getD (xs : List Int) : ((List.range xs.length).map fun i => xs.getD i 0) = xs := by
  apply List.ext_getElem?
  intro j
  rw [List.getElem?_map]
  by_cases h : j < xs.length
  · rw [List.getElem?_range h]
    simp [h]
  · rw [List.getElem?_eq_none (by simpa using Nat.le_of_not_lt h), List.getElem?_eq_none (by omega)]; rfl
/-- A row whose numbers are 0 where the weights are not greater than 0 has the sum of what stands at the places. -/
theorem cmp_sum {ws xs : List Int} (hl : xs.length = ws.length) (h0 : ∀ i, i < ws.length → ws.getD i 0 ≤ 0 → xs.getD i 0 = 0) : (cmp ws xs).sum = xs.sum := by
  rw [cmp, pos, sum_filter (f := fun i => xs.getD i 0) _ (fun i hi hp => h0 i (by simpa using hi) (by simpa using hp)), ← hl, range_map_getD]
theorem map_getD {g : Int → Int} (hg : g 0 = 0) (ws : List Int) (i : Nat) : (ws.map g).getD i 0 = g (ws.getD i 0) := by
  rw [List.getD_eq_getElem?_getD, List.getD_eq_getElem?_getD, List.getElem?_map]
  cases ws[i]? with
  | none => simp [hg]
  | some z => rfl
theorem cmp_map {g : Int → Int} (hg : g 0 = 0) (ws : List Int) : cmp ws (ws.map g) = (cmp ws ws).map g := by
  rw [cmp, cmp, List.map_map]
  exact List.map_congr_left fun i _ => map_getD hg ws i
theorem out_zero (t S : Int) : (fun w => t * w / S) 0 = 0 := by simp
theorem rest_zero (t S : Int) : (fun w => t * w % S) 0 = 0 := by simp
/-- The two states of the dealing of what is left: of all weights, and of those that are greater than 0. -/
structure Alike (ws : List Int) (s s' : List Int × List Int) : Prop where
  l1 : s.1.length = ws.length
  l2 : s.2.length = ws.length
  o : cmp ws s.1 = s'.1
  r : cmp ws s.2 = s'.2
  z1 : ∀ i, i < ws.length → ws.getD i 0 ≤ 0 → s.1.getD i 0 = 0
  z2 : ∀ i, i < ws.length → ws.getD i 0 ≤ 0 → s.2.getD i 0 = 0
theorem cmp_len (ws xs : List Int) : (cmp ws xs).length = (pos ws).length := by simp [cmp]
theorem cmp_getD {ws xs : List Int} {j : Nat} (hj : j < (pos ws).length) : (cmp ws xs).getD j 0 = xs.getD (pos ws)[j] 0 := by
  rw [cmp, List.getD_eq_getElem?_getD, List.getElem?_map, List.getElem?_eq_getElem hj]; rfl
theorem set_getD_ne {xs : List Int} {i j : Nat} {v : Int} (h : i ≠ j) : (xs.set i v).getD j 0 = xs.getD j 0 := by
  rw [List.getD_eq_getElem?_getD, List.getElem?_set_ne h, ← List.getD_eq_getElem?_getD]
theorem set_getD_self {xs : List Int} {i : Nat} {v : Int} (h : i < xs.length) : (xs.set i v).getD i 0 = v := by
  rw [List.getD_eq_getElem?_getD, List.getElem?_set_self h]; rfl
theorem cmp_set {ws xs : List Int} {j : Nat} {v : Int} (hl : xs.length = ws.length) (hj : j < (pos ws).length) : cmp ws (xs.set (pos ws)[j] v) = (cmp ws xs).set j v := by
  have hp := (mem_pos.1 (List.getElem_mem hj)).1
  apply List.ext_getElem?
  intro k
  by_cases e : j = k
  · subst e
    rw [List.getElem?_set_self (by rw [cmp_len]; exact hj), cmp, List.getElem?_map, List.getElem?_eq_getElem hj]
    simp only [Option.map_some]
    rw [set_getD_self (by omega)]
  · rw [List.getElem?_set_ne e, cmp, cmp, List.getElem?_map, List.getElem?_map]
    by_cases hk : k < (pos ws).length
    · rw [List.getElem?_eq_getElem hk]
      simp only [Option.map_some]
      rw [set_getD_ne]
      rcases Nat.lt_or_gt_of_ne e with h | h
      · have := pos_get_lt hk h; omega
      · have := pos_get_lt hj h; omega
    · rw [List.getElem?_eq_none (by omega)]; rfl
/-- The greatest of all is that of the places, if it is greater than 0. -/
theorem fm_place {ws rest : List Int} (hl : rest.length = ws.length) (hz : ∀ i, i < ws.length → ws.getD i 0 ≤ 0 → rest.getD i 0 = 0) {j : Nat} (h : IsFm (cmp ws rest) j) (h0 : 0 < (cmp ws rest).getD j 0) : ∃ hj : j < (pos ws).length, fm rest = (pos ws)[j] := by
  have hj : j < (pos ws).length := by have := h.lt; rwa [cmp_len] at this
  refine ⟨hj, ?_⟩
  have hp := mem_pos.1 (List.getElem_mem hj)
  have hgt : rest.getD (pos ws)[j] 0 = (cmp ws rest).getD j 0 := (cmp_getD hj).symm
  have key : ∀ i, i < ws.length → (∃ k, ∃ hk : k < (pos ws).length, (pos ws)[k] = i) ∨ rest.getD i 0 = 0 := by
    intro i hi
    by_cases hw : 0 < ws.getD i 0
    · obtain ⟨k, hk, e⟩ := List.mem_iff_getElem.1 (mem_pos.2 ⟨hi, hw⟩)
      exact Or.inl ⟨k, hk, e⟩
    · exact Or.inr (hz i hi (by omega))
  have his : IsFm rest (pos ws)[j] := by
    refine ⟨by omega, fun i hi => ?_, fun i hi => ?_⟩
    · rcases key i (by omega) with ⟨k, hk, rfl⟩ | e
      · rw [hgt, ← cmp_getD hk]
        exact h.le k (by rw [cmp_len]; exact hk)
      · rw [e, hgt]; omega
    · rcases key i (by omega) with ⟨k, hk, rfl⟩ | e
      · rw [hgt, ← cmp_getD hk]
        refine h.fst k ?_
        rcases Nat.lt_trichotomy k j with e | e | e
        · exact e
        · subst e; omega
        · have := pos_get_lt hk e; omega
      · rw [e, hgt]; omega
  exact (fm_is (by omega)).uniq his
theorem Alike.step {ws : List Int} {s s' : List Int × List Int} (h : Alike ws s s') (hp : 0 < s'.2.countP fun z => decide (0 < z)) : Alike ws (shStep s) (shStep s') := by
  obtain ⟨l1, l2, o, r, z1, z2⟩ := h
  obtain ⟨z, hz, hz0⟩ := List.countP_pos_iff.1 hp
  simp only [decide_eq_true_eq] at hz0
  obtain ⟨k, hk, hke⟩ := List.mem_iff_getElem.1 hz
  have hne : 0 < s'.2.length := by omega
  obtain ⟨j, hj0⟩ : ∃ j, j = fm s'.2 := ⟨_, rfl⟩
  have hfm := fm_is hne
  rw [← hj0] at hfm
  have hmax : 0 < s'.2.getD j 0 := by
    have h1 := hfm.le k hk
    have h2 : s'.2.getD k 0 = z := by simp [hk, hke]
    omega
  rw [← r] at hfm hmax
  obtain ⟨hj, hpl⟩ := fm_place l2 z2 hfm hmax
  have hpp := mem_pos.1 (List.getElem_mem hj)
  have hov : s.1.getD (fm s.2) 0 = s'.1.getD j 0 := by
    rw [hpl, ← cmp_getD hj, o]
  refine ⟨by simp [shStep, l1], by simp [shStep, l2], ?_, ?_, fun i hi hw => ?_, fun i hi hw => ?_⟩
  · show cmp ws (s.1.set (fm s.2) (s.1.getD (fm s.2) 0 + 1)) = s'.1.set (fm s'.2) (s'.1.getD (fm s'.2) 0 + 1)
    rw [← hj0, hov, hpl, cmp_set l1 hj, o]
  · show cmp ws (s.2.set (fm s.2) (-1)) = s'.2.set (fm s'.2) (-1)
    rw [← hj0, hpl, cmp_set l2 hj, r]
  · show (s.1.set (fm s.2) _).getD i 0 = 0
    rw [hpl, set_getD_ne (fun e => by rw [e] at hpp; omega)]
    exact z1 i hi hw
  · show (s.2.set (fm s.2) (-1)).getD i 0 = 0
    rw [hpl, set_getD_ne (fun e => by rw [e] at hpp; omega)]
    exact z2 i hi hw
theorem step_count {s : List Int × List Int} {k : Nat} (h : k + 1 ≤ s.2.countP fun z => decide (0 < z)) : k ≤ (shStep s).2.countP fun z => decide (0 < z) := by
  have hp : 0 < s.2.countP fun z => decide (0 < z) := by omega
  have hne : 0 < s.2.length := Nat.lt_of_lt_of_le hp List.countP_le_length
  show k ≤ (s.2.set (fm s.2) (-1)).countP fun z => decide (0 < z)
  rw [List.countP_set (fm_is hne).lt]
  split <;> split <;> omega
theorem Alike.iter {ws : List Int} (k : Nat) {s s' : List Int × List Int} (h : Alike ws s s') (hp : k ≤ s'.2.countP fun z => decide (0 < z)) : Alike ws (shIter k s) (shIter k s') := by
  induction k generalizing s s' with
  | zero => exact h
  | succ k ih => exact ih (h.step (by omega)) (step_count hp)
theorem out_sum (t S : Int) (ws : List Int) : S * (shOut t S ws).sum + (shRest t S ws).sum = t * ws.sum := by
  induction ws with
  | nil => simp [shOut, shRest]
  | cons x ws ih =>
    have h := Int.mul_ediv_add_emod (t * x) S
    simp only [shOut, shRest, List.map_cons, List.sum_cons] at ih ⊢
    rw [Int.mul_add, Int.mul_add]
    omega
theorem rest_count {t S : Int} (hS : 0 < S) (ws : List Int) : (shRest t S ws).sum ≤ S * ((shRest t S ws).countP fun z => decide (0 < z) : Nat) := by
  induction ws with
  | nil => simp [shRest]
  | cons x ws ih =>
    have h1 := Int.emod_nonneg (t * x) (Int.ne_of_gt hS)
    have h2 := Int.emod_lt_of_pos (t * x) hS
    simp only [shRest, List.map_cons, List.sum_cons, List.countP_cons] at ih ⊢
    generalize ((ws.map fun w => t * w % S).countP fun z => decide (0 < z)) = c at ih ⊢
    split
    · push_cast; rw [Int.mul_add]; omega
    · rename_i h; simp at h; rw [Nat.add_zero]; omega
theorem left_count {t : Int} {ws : List Int} (hS : 0 < ws.sum) : (shLeft t ws.sum ws).toNat ≤ (shRest t ws.sum ws).countP fun z => decide (0 < z) := by
  have h1 := out_sum t ws.sum ws
  have h2 := rest_count (t := t) hS ws
  generalize ((shRest t ws.sum ws).countP fun z => decide (0 < z)) = c at h2 ⊢
  have h3 : ws.sum * shLeft t ws.sum ws ≤ ws.sum * (c : Int) := by
    rw [shLeft, Int.mul_sub]
    have : ws.sum * t = t * ws.sum := Int.mul_comm _ _
    omega
  have := Int.le_of_mul_le_mul_left h3 hS
  omega
/-- Shares without the weights that are 0. -/
theorem shares_cmp {t : Int} {ws : List Int} (hw : ∀ z ∈ ws, 0 ≤ z) (hS : 0 < ws.sum) : cmp ws (shares t ws) = shares t (cmp ws ws) ∧ (shares t ws).length = ws.length ∧ ∀ i, i < ws.length → ws.getD i 0 ≤ 0 → (shares t ws).getD i 0 = 0 := by
  have hz : ∀ i, i < ws.length → ws.getD i 0 ≤ 0 → ws.getD i 0 = 0 := by
    intro i hi h
    have := hw (ws.getD i 0) (by simp [hi])
    omega
  have hs : (cmp ws ws).sum = ws.sum := cmp_sum rfl hz
  have ho : cmp ws (shOut t ws.sum ws) = shOut t ws.sum (cmp ws ws) := cmp_map (out_zero t ws.sum) ws
  have hr : cmp ws (shRest t ws.sum ws) = shRest t ws.sum (cmp ws ws) := cmp_map (rest_zero t ws.sum) ws
  have hzo : ∀ i, i < ws.length → ws.getD i 0 ≤ 0 → (shOut t ws.sum ws).getD i 0 = 0 := by
    intro i hi h
    rw [shOut, map_getD (out_zero t ws.sum), hz i hi h]; simp
  have hzr : ∀ i, i < ws.length → ws.getD i 0 ≤ 0 → (shRest t ws.sum ws).getD i 0 = 0 := by
    intro i hi h
    rw [shRest, map_getD (rest_zero t ws.sum), hz i hi h]; simp
  have hl : shLeft t ws.sum (cmp ws ws) = shLeft t ws.sum ws := by
    rw [shLeft, shLeft, ← ho, cmp_sum (by simp [shOut]) hzo]
  have h0 : Alike ws (shOut t ws.sum ws, shRest t ws.sum ws) (shOut t ws.sum (cmp ws ws), shRest t ws.sum (cmp ws ws)) :=
    ⟨by simp [shOut], by simp [shRest], ho, hr, hzo, hzr⟩
  have hc := left_count (t := t) (ws := cmp ws ws) (by rw [hs]; exact hS)
  rw [hs, hl] at hc
  have h1 := h0.iter _ hc
  rw [shares, shares, hs, hl]
  exact ⟨h1.o, h1.l1, h1.z1⟩
theorem shIter_len (k : Nat) (s : List Int × List Int) : (shIter k s).1.length = s.1.length ∧ (shIter k s).2.length = s.2.length := by
  induction k with
  | zero => exact ⟨rfl, rfl⟩
  | succ k ih => rw [shIter_succ]; simp [shStep, ih.1, ih.2]
theorem shIter_bnd {B : Int} {s : List Int × List Int} (h : ∀ i, 0 ≤ s.1.getD i 0 ∧ s.1.getD i 0 ≤ B) (k : Nat) : ∀ i, 0 ≤ (shIter k s).1.getD i 0 ∧ (shIter k s).1.getD i 0 ≤ B + k := by
  induction k with
  | zero => intro i; have := h i; exact ⟨this.1, by rw [shIter]; omega⟩
  | succ k ih =>
    intro i
    rw [shIter_succ]
    show 0 ≤ ((shIter k s).1.set (fm (shIter k s).2) ((shIter k s).1.getD (fm (shIter k s).2) 0 + 1)).getD i 0 ∧ ((shIter k s).1.set (fm (shIter k s).2) ((shIter k s).1.getD (fm (shIter k s).2) 0 + 1)).getD i 0 ≤ B + ((k + 1 : Nat) : Int)
    generalize shIter k s = u at ih ⊢
    have h1 := ih i
    have h2 := ih (fm u.2)
    by_cases e : fm u.2 = i
    · by_cases hl : fm u.2 < u.1.length
      · rw [← e, set_getD_self hl]
        exact ⟨by omega, by omega⟩
      · rw [List.set_eq_of_length_le (by omega)]
        exact ⟨by omega, by omega⟩
    · rw [set_getD_ne e]
      exact ⟨by omega, by omega⟩
theorem shOut_bnd {t S : Int} {ws : List Int} (ht : 0 ≤ t ∧ t ≤ 30000) (hS : 0 < S) (hw : ∀ z ∈ ws, 0 ≤ z ∧ z ≤ 30000) : ∀ i, 0 ≤ (shOut t S ws).getD i 0 ∧ (shOut t S ws).getD i 0 ≤ 900000000 := by
  intro i
  rw [shOut, map_getD (out_zero t S)]
  have hb : 0 ≤ ws.getD i 0 ∧ ws.getD i 0 ≤ 30000 := by
    rw [List.getD_eq_getElem?_getD]
    cases e : ws[i]? with
    | none => simp
    | some z => simpa using hw z (List.mem_of_getElem? e)
  have h1 : 0 ≤ t * ws.getD i 0 := Int.mul_nonneg ht.1 hb.1
  have h2 : t * ws.getD i 0 ≤ 30000 * 30000 := Int.mul_le_mul ht.2 hb.2 hb.1 (by omega)
  have h3 : t * ws.getD i 0 / S ≤ t * ws.getD i 0 := Int.ediv_le_self _ h1
  have h4 := Int.ediv_nonneg h1 (Int.le_of_lt hS)
  exact ⟨h4, by omega⟩
theorem shRest_nonneg {t S : Int} (hS : 0 < S) (ws : List Int) : 0 ≤ (shRest t S ws).sum := by
  induction ws with
  | nil => simp [shRest]
  | cons x ws ih =>
    have h1 := Int.emod_nonneg (t * x) (Int.ne_of_gt hS)
    simp only [shRest, List.map_cons, List.sum_cons] at ih ⊢
    omega
theorem shLeft_nonneg {t : Int} {ws : List Int} (hS : 0 < ws.sum) : 0 ≤ shLeft t ws.sum ws := by
  have h1 := out_sum t ws.sum ws
  have h2 := shRest_nonneg (t := t) hS ws
  have h3 : ws.sum * 0 ≤ ws.sum * shLeft t ws.sum ws := by
    rw [shLeft, Int.mul_sub, Int.mul_zero]
    have : ws.sum * t = t * ws.sum := Int.mul_comm _ _
    omega
  exact Int.le_of_mul_le_mul_left h3 hS
end Go.Proofs.Ytihkkemkecifcaa
