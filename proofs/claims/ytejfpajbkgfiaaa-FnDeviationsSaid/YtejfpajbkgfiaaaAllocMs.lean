import Derived.Test.YtejfpajbkgfiaaaWts
import Derived.Test.YtejfpajbkgfiaaaRds
/-
  Plain functions: shares of a total, with and without the weights that are 0. No program here.
-/
namespace Go.Proofs.Ytejfpajbkgfiaaa

/-- The first index of the greatest number among the first k + 1. -/
def fmTo (r : List Int) : Nat → Nat
  | 0 => 0
  | k + 1 => if r.getD (fmTo r k) 0 < r.getD (k + 1) 0 then k + 1 else fmTo r k
def fm (r : List Int) : Nat := fmTo r (r.length - 1)
structure IsFm (r : List Int) (b : Nat) : Prop where
  lt : b < r.length
  le : ∀ i, i < r.length → r.getD i 0 ≤ r.getD b 0
  fst : ∀ i, i < b → r.getD i 0 < r.getD b 0
theorem IsFm.uniq {r : List Int} {a b : Nat} (h : IsFm r a) (k : IsFm r b) : a = b := by
  rcases Nat.lt_trichotomy a b with e | e | e
  · have h1 := k.fst a e
    have h2 := h.le b k.lt
    omega
  · exact e
  · have h1 := h.fst b e
    have h2 := k.le a h.lt
    omega
theorem fmTo_le (r : List Int) (k : Nat) : fmTo r k ≤ k := by
  induction k with
  | zero => exact Nat.le_refl _
  | succ k ih => rw [fmTo]; split <;> omega
theorem fmTo_spec (r : List Int) (k : Nat) : (∀ i, i ≤ k → r.getD i 0 ≤ r.getD (fmTo r k) 0) ∧ ∀ i, i < fmTo r k → r.getD i 0 < r.getD (fmTo r k) 0 := by
  induction k with
  | zero =>
    refine ⟨fun i hi => ?_, fun i hi => absurd hi (by simp [fmTo])⟩
    have : i = 0 := by omega
    rw [this]; exact Int.le_refl _
  | succ k ih =>
    rw [fmTo]
    split
    · rename_i h
      refine ⟨fun i hi => ?_, fun i hi => ?_⟩
      · by_cases e : i = k + 1
        · rw [e]; exact Int.le_refl _
        · have := ih.1 i (by omega); omega
      · have := ih.1 i (by omega); omega
    · rename_i h
      refine ⟨fun i hi => ?_, ih.2⟩
      by_cases e : i = k + 1
      · rw [e]; omega
      · exact ih.1 i (by omega)
theorem fm_is {r : List Int} (h : 0 < r.length) : IsFm r (fm r) := by
  have h1 := fmTo_le r (r.length - 1)
  have h2 := fmTo_spec r (r.length - 1)
  exact ⟨by rw [fm]; omega, fun i hi => h2.1 i (by omega), h2.2⟩
def shStep (s : List Int × List Int) : List Int × List Int := (s.1.set (fm s.2) (s.1.getD (fm s.2) 0 + 1), s.2.set (fm s.2) (-1))
def shIter : Nat → List Int × List Int → List Int × List Int
  | 0, s => s
  | k + 1, s => shIter k (shStep s)
theorem shIter_succ (k : Nat) (s : List Int × List Int) : shIter (k + 1) s = shStep (shIter k s) := by
  induction k generalizing s with
  | zero => rfl
  | succ k ih => rw [shIter, ih]; rfl
def shOut (t S : Int) (ws : List Int) : List Int := ws.map fun w => t * w / S
def shRest (t S : Int) (ws : List Int) : List Int := ws.map fun w => t * w % S
def shLeft (t S : Int) (ws : List Int) : Int := t - (shOut t S ws).sum
def shares (t : Int) (ws : List Int) : List Int := (shIter (shLeft t ws.sum ws).toNat (shOut t ws.sum ws, shRest t ws.sum ws)).1
/-- The places of the weights that are greater than 0, and what stands there. -/
def pos (ws : List Int) : List Nat := (List.range ws.length).filter fun i => decide (0 < ws.getD i 0)
def cmp (ws xs : List Int) : List Int := (pos ws).map fun i => xs.getD i 0
theorem mem_pos {ws : List Int} {i : Nat} : i ∈ pos ws ↔ i < ws.length ∧ 0 < ws.getD i 0 := by
  simp [pos]
theorem pos_lt (ws : List Int) : (pos ws).Pairwise (· < ·) := List.pairwise_lt_range.filter _
theorem pos_get_lt {ws : List Int} {i j : Nat} (hj : j < (pos ws).length) (hi : i < j) : (pos ws)[i]'(by omega) < (pos ws)[j] := List.pairwise_iff_getElem.1 (pos_lt ws) i j (by omega) hj hi
theorem sum_filter {f : Nat → Int} {p : Nat → Bool} (l : List Nat) (h : ∀ i ∈ l, p i = false → f i = 0) : ((l.filter p).map f).sum = (l.map f).sum := by
  induction l with
  | nil => rfl
  | cons x l ih =>
    have h1 := ih (fun i hi => h i (List.mem_cons_of_mem _ hi))
    cases e : p x with
    | true => rw [List.filter_cons, if_pos e, List.map_cons, List.map_cons, List.sum_cons, List.sum_cons, h1]
    | false => rw [List.filter_cons, if_neg (by simp [e]), List.map_cons, List.sum_cons, h1, h x (List.mem_cons_self ..) e]; omega
theorem range_map_getD (xs : List Int) : ((List.range xs.length).map fun i => xs.getD i 0) = xs := by
  apply List.ext_getElem?
  intro j
  rw [List.getElem?_map]
  by_cases h : j < xs.length
  · rw [List.getElem?_range h]
    simp [h]
  · rw [List.getElem?_eq_none (by simpa using Nat.le_of_not_lt h), List.getElem?_eq_none (by omega)]; rfl
/-- A row whose numbers are 0 where the weights are not greater than 0 has the sum of what stands at the places. -/
theorem cmp_sum {ws xs : List Int} (hl : xs.length = ws.length) (h0 : ∀ i, i < ws.length → ws.getD i 0 ≤ 0 → xs.getD i 0 = 0) : (cmp ws xs).sum = xs.sum := by
  rw [cmp, pos, sum_filter (f := fun i => xs.getD i 0) _ (fun i hi hp => h0 i (by simpa using hi) (by simpa using hp)), ← hl, range_map_getD]
theorem map_getD {g : Int → Int} (hg : g 0 = 0) (ws : List Int) (i : Nat) : (ws.map g).getD i 0 = g (ws.getD i 0) := by
  rw [List.getD_eq_getElem?_getD, List.getD_eq_getElem?_getD, List.getElem?_map]
  cases ws[i]? with
  | none => simp [hg]
  | some z => rfl
theorem cmp_map {g : Int → Int} (hg : g 0 = 0) (ws : List Int) : cmp ws (ws.map g) = (cmp ws ws).map g := by
  rw [cmp, cmp, List.map_map]
  exact List.map_congr_left fun i _ => map_getD hg ws i
theorem out_zero (t S : Int) : (fun w => t * w / S) 0 = 0 := by simp
theorem rest_zero (t S : Int) : (fun w => t * w % S) 0 = 0 := by simp
/-- The two states of the dealing of what is left: of all weights, and of those that are greater than 0. -/
structure Alike (ws : List Int) (s s' : List Int × List Int) : Prop where
  l1 : s.1.length = ws.length
  l2 : s.2.length = ws.length
  o : cmp ws s.1 = s'.1
  r : cmp ws s.2 = s'.2
  z1 : ∀ i, i < ws.length → ws.getD i 0 ≤ 0 → s.1.getD i 0 = 0
  z2 : ∀ i, i < ws.length → ws.getD i 0 ≤ 0 → s.2.getD i 0 = 0
theorem cmp_len (ws xs : List Int) : (cmp ws xs).length = (pos ws).length := by simp [cmp]
theorem cmp_getD {ws xs : List Int} {j : Nat} (hj : j < (pos ws).length) : (cmp ws xs).getD j 0 = xs.getD (pos ws)[j] 0 := by
  rw [cmp, List.getD_eq_getElem?_getD, List.getElem?_map, List.getElem?_eq_getElem hj]; rfl
theorem set_getD_ne {xs : List Int} {i j : Nat} {v : Int} (h : i ≠ j) : (xs.set i v).getD j 0 = xs.getD j 0 := by
  rw [List.getD_eq_getElem?_getD, List.getElem?_set_ne h, ← List.getD_eq_getElem?_getD]
theorem set_getD_self {xs : List Int} {i : Nat} {v : Int} (h : i < xs.length) : (xs.set i v).getD i 0 = v := by
  rw [List.getD_eq_getElem?_getD, List.getElem?_set_self h]; rfl
theorem cmp_set {ws xs : List Int} {j : Nat} {v : Int} (hl : xs.length = ws.length) (hj : j < (pos ws).length) : cmp ws (xs.set (pos ws)[j] v) = (cmp ws xs).set j v := by
  have hp := (mem_pos.1 (List.getElem_mem hj)).1
  apply List.ext_getElem?
  intro k
  by_cases e : j = k
  · subst e
    rw [List.getElem?_set_self (by rw [cmp_len]; exact hj), cmp, List.getElem?_map, List.getElem?_eq_getElem hj]
    simp only [Option.map_some]
    rw [set_getD_self (by omega)]
  · rw [List.getElem?_set_ne e, cmp, cmp, List.getElem?_map, List.getElem?_map]
    by_cases hk : k < (pos ws).length
    · rw [List.getElem?_eq_getElem hk]
      simp only [Option.map_some]
      rw [set_getD_ne]
      rcases Nat.lt_or_gt_of_ne e with h | h
      · have := pos_get_lt hk h; omega
      · have := pos_get_lt hj h; omega
    · rw [List.getElem?_eq_none (by omega)]; rfl
/-- The greatest of all is that of the places, if it is greater than 0. -/
theorem fm_place {ws rest : List Int} (hl : rest.length = ws.length) (hz : ∀ i, i < ws.length → ws.getD i 0 ≤ 0 → rest.getD i 0 = 0) {j : Nat} (h : IsFm (cmp ws rest) j) (h0 : 0 < (cmp ws rest).getD j 0) : ∃ hj : j < (pos ws).length, fm rest = (pos ws)[j] := by
  have hj : j < (pos ws).length := by have := h.lt; rwa [cmp_len] at this
  refine ⟨hj, ?_⟩
  have hp := mem_pos.1 (List.getElem_mem hj)
  have hgt : rest.getD (pos ws)[j] 0 = (cmp ws rest).getD j 0 := (cmp_getD hj).symm
  have key : ∀ i, i < ws.length → (∃ k, ∃ hk : k < (pos ws).length, (pos ws)[k] = i) ∨ rest.getD i 0 = 0 := by
    intro i hi
    by_cases hw : 0 < ws.getD i 0
    · obtain ⟨k, hk, e⟩ := List.mem_iff_getElem.1 (mem_pos.2 ⟨hi, hw⟩)
      exact Or.inl ⟨k, hk, e⟩
    · exact Or.inr (hz i hi (by omega))
  have his : IsFm rest (pos ws)[j] := by
    refine ⟨by omega, fun i hi => ?_, fun i hi => ?_⟩
    · rcases key i (by omega) with ⟨k, hk, rfl⟩ | e
      · rw [hgt, ← cmp_getD hk]
        exact h.le k (by rw [cmp_len]; exact hk)
      · rw [e, hgt]; omega
    · rcases key i (by omega) with ⟨k, hk, rfl⟩ | e
      · rw [hgt, ← cmp_getD hk]
        refine h.fst k ?_
        rcases Nat.lt_trichotomy k j with e | e | e
        · exact e
        · subst e; omega
        · have := pos_get_lt hk e; omega
      · rw [e, hgt]; omega
  exact (fm_is (by omega)).uniq his
theorem Alike.step {ws : List Int} {s s' : List Int × List Int} (h : Alike ws s s') (hp : 0 < s'.2.countP fun z => decide (0 < z)) : Alike ws (shStep s) (shStep s') := by
  obtain ⟨l1, l2, o, r, z1, z2⟩ := h
  obtain ⟨z, hz, hz0⟩ := List.countP_pos_iff.1 hp
  simp only [decide_eq_true_eq] at hz0
  obtain ⟨k, hk, hke⟩ := List.mem_iff_getElem.1 hz
  have hne : 0 < s'.2.length := by omega
  obtain ⟨j, hj0⟩ : ∃ j, j = fm s'.2 := ⟨_, rfl⟩
  have hfm := fm_is hne
  rw [← hj0] at hfm
  have hmax : 0 < s'.2.getD j 0 := by
    have h1 := hfm.le k hk
    have h2 : s'.2.getD k 0 = z := by simp [hk, hke]
    omega
  rw [← r] at hfm hmax
  obtain ⟨hj, hpl⟩ := fm_place l2 z2 hfm hmax
  have hpp := mem_pos.1 (List.getElem_mem hj)
  have hov : s.1.getD (fm s.2) 0 = s'.1.getD j 0 := by
    rw [hpl, ← cmp_getD hj, o]
  refine ⟨by simp [shStep, l1], by simp [shStep, l2], ?_, ?_, fun i hi hw => ?_, fun i hi hw => ?_⟩
  · show cmp ws (s.1.set (fm s.2) (s.1.getD (fm s.2) 0 + 1)) = s'.1.set (fm s'.2) (s'.1.getD (fm s'.2) 0 + 1)
    rw [← hj0, hov, hpl, cmp_set l1 hj, o]
  · show cmp ws (s.2.set (fm s.2) (-1)) = s'.2.set (fm s'.2) (-1)
    rw [← hj0, hpl, cmp_set l2 hj, r]
  · show (s.1.set (fm s.2) _).getD i 0 = 0
    rw [hpl, set_getD_ne (fun e => by rw [e] at hpp; omega)]
    exact z1 i hi hw
  · show (s.2.set (fm s.2) (-1)).getD i 0 = 0
    rw [hpl, set_getD_ne (fun e => by rw [e] at hpp; omega)]
    exact z2 i hi hw
theorem step_count {s : List Int × List Int} {k : Nat} (h : k + 1 ≤ s.2.countP fun z => decide (0 < z)) : k ≤ (shStep s).2.countP fun z => decide (0 < z) := by
  have hp : 0 < s.2.countP fun z => decide (0 < z) := by omega
  have hne : 0 < s.2.length := Nat.lt_of_lt_of_le hp List.countP_le_length
  show k ≤ (s.2.set (fm s.2) (-1)).countP fun z => decide (0 < z)
  rw [List.countP_set (fm_is hne).lt]
  split <;> split <;> omega
theorem Alike.iter {ws : List Int} (k : Nat) {s s' : List Int × List Int} (h : Alike ws s s') (hp : k ≤ s'.2.countP fun z => decide (0 < z)) : Alike ws (shIter k s) (shIter k s') := by
  induction k generalizing s s' with
  | zero => exact h
  | succ k ih => exact ih (h.step (by omega)) (step_count hp)
theorem out_sum (t S : Int) (ws : List Int) : S * (shOut t S ws).sum + (shRest t S ws).sum = t * ws.sum := by
  induction ws with
  | nil => simp [shOut, shRest]
  | cons x ws ih =>
    have h := Int.mul_ediv_add_emod (t * x) S
    simp only [shOut, shRest, List.map_cons, List.sum_cons] at ih ⊢
    rw [Int.mul_add, Int.mul_add]
    omega
theorem rest_count {t S : Int} (hS : 0 < S) (ws : List Int) : (shRest t S ws).sum ≤ S * ((shRest t S ws).countP fun z => decide (0 < z) : Nat) := by
  induction ws with
  | nil => simp [shRest]
  | cons x ws ih =>
    have h1 := Int.emod_nonneg (t * x) (Int.ne_of_gt hS)
    have h2 := Int.emod_lt_of_pos (t * x) hS
    simp only [shRest, List.map_cons, List.sum_cons, List.countP_cons] at ih ⊢
    generalize ((ws.map fun w => t * w % S).countP fun z => decide (0 < z)) = c at ih ⊢
    split
    · push_cast; rw [Int.mul_add]; omega
    · rename_i h; simp at h; rw [Nat.add_zero]; omega
theorem left_count {t : Int} {ws : List Int} (hS : 0 < ws.sum) : (shLeft t ws.sum ws).toNat ≤ (shRest t ws.sum ws).countP fun z => decide (0 < z) := by
  have h1 := out_sum t ws.sum ws
  have h2 := rest_count (t := t) hS ws
  generalize ((shRest t ws.sum ws).countP fun z => decide (0 < z)) = c at h2 ⊢
  have h3 : ws.sum * shLeft t ws.sum ws ≤ ws.sum * (c : Int) := by
    rw [shLeft, Int.mul_sub]
    have : ws.sum * t = t * ws.sum := Int.mul_comm _ _
    omega
  have := Int.le_of_mul_le_mul_left h3 hS
  omega
/-- Shares without the weights that are 0. -/
theorem shares_cmp {t : Int} {ws : List Int} (hw : ∀ z ∈ ws, 0 ≤ z) (hS : 0 < ws.sum) : cmp ws (shares t ws) = shares t (cmp ws ws) ∧ (shares t ws).length = ws.length ∧ ∀ i, i < ws.length → ws.getD i 0 ≤ 0 → (shares t ws).getD i 0 = 0 := by
  have hz : ∀ i, i < ws.length → ws.getD i 0 ≤ 0 → ws.getD i 0 = 0 := by
    intro i hi h
    have := hw (ws.getD i 0) (by simp [hi])
    omega
  have hs : (cmp ws ws).sum = ws.sum := cmp_sum rfl hz
  have ho : cmp ws (shOut t ws.sum ws) = shOut t ws.sum (cmp ws ws) := cmp_map (out_zero t ws.sum) ws
  have hr : cmp ws (shRest t ws.sum ws) = shRest t ws.sum (cmp ws ws) := cmp_map (rest_zero t ws.sum) ws
  have hzo : ∀ i, i < ws.length → ws.getD i 0 ≤ 0 → (shOut t ws.sum ws).getD i 0 = 0 := by
    intro i hi h
    rw [shOut, map_getD (out_zero t ws.sum), hz i hi h]; simp
  have hzr : ∀ i, i < ws.length → ws.getD i 0 ≤ 0 → (shRest t ws.sum ws).getD i 0 = 0 := by
    intro i hi h
    rw [shRest, map_getD (rest_zero t ws.sum), hz i hi h]; simp
  have hl : shLeft t ws.sum (cmp ws ws) = shLeft t ws.sum ws := by
    rw [shLeft, shLeft, ← ho, cmp_sum (by simp [shOut]) hzo]
  have h0 : Alike ws (shOut t ws.sum ws, shRest t ws.sum ws) (shOut t ws.sum (cmp ws ws), shRest t ws.sum (cmp ws ws)) :=
    ⟨by simp [shOut], by simp [shRest], ho, hr, hzo, hzr⟩
  have hc := left_count (t := t) (ws := cmp ws ws) (by rw [hs]; exact hS)
  rw [hs, hl] at hc
  have h1 := h0.iter _ hc
  rw [shares, shares, hs, hl]
  exact ⟨h1.o, h1.l1, h1.z1⟩
theorem shIter_len (k : Nat) (s : List Int × List Int) : (shIter k s).1.length = s.1.length ∧ (shIter k s).2.length = s.2.length := by
  induction k with
  | zero => exact ⟨rfl, rfl⟩
  | succ k ih => rw [shIter_succ]; simp [shStep, ih.1, ih.2]
theorem shIter_bnd {B : Int} {s : List Int × List Int} (h : ∀ i, 0 ≤ s.1.getD i 0 ∧ s.1.getD i 0 ≤ B) (k : Nat) : ∀ i, 0 ≤ (shIter k s).1.getD i 0 ∧ (shIter k s).1.getD i 0 ≤ B + k := by
  induction k with
  | zero => intro i; have := h i; exact ⟨this.1, by rw [shIter]; omega⟩
  | succ k ih =>
    intro i
    rw [shIter_succ]
    show 0 ≤ ((shIter k s).1.set (fm (shIter k s).2) ((shIter k s).1.getD (fm (shIter k s).2) 0 + 1)).getD i 0 ∧ ((shIter k s).1.set (fm (shIter k s).2) ((shIter k s).1.getD (fm (shIter k s).2) 0 + 1)).getD i 0 ≤ B + ((k + 1 : Nat) : Int)
    generalize shIter k s = u at ih ⊢
    have h1 := ih i
    have h2 := ih (fm u.2)
    by_cases e : fm u.2 = i
    · by_cases hl : fm u.2 < u.1.length
      · rw [← e, set_getD_self hl]
        exact ⟨by omega, by omega⟩
      · rw [List.set_eq_of_length_le (by omega)]
        exact ⟨by omega, by omega⟩
    · rw [set_getD_ne e]
      exact ⟨by omega, by omega⟩
theorem shOut_bnd {t S : Int} {ws : List Int} (ht : 0 ≤ t ∧ t ≤ 30000) (hS : 0 < S) (hw : ∀ z ∈ ws, 0 ≤ z ∧ z ≤ 30000) : ∀ i, 0 ≤ (shOut t S ws).getD i 0 ∧ (shOut t S ws).getD i 0 ≤ 900000000 := by
  intro i
  rw [shOut, map_getD (out_zero t S)]
  have hb : 0 ≤ ws.getD i 0 ∧ ws.getD i 0 ≤ 30000 := by
    rw [List.getD_eq_getElem?_getD]
    cases e : ws[i]? with
    | none => simp
    | some z => simpa using hw z (List.mem_of_getElem? e)
  have h1 : 0 ≤ t * ws.getD i 0 := Int.mul_nonneg ht.1 hb.1
  have h2 : t * ws.getD i 0 ≤ 30000 * 30000 := Int.mul_le_mul ht.2 hb.2 hb.1 (by omega)
  have h3 : t * ws.getD i 0 / S ≤ t * ws.getD i 0 := Int.ediv_le_self _ h1
  have h4 := Int.ediv_nonneg h1 (Int.le_of_lt hS)
  exact ⟨h4, by omega⟩
theorem shRest_nonneg {t S : Int} (hS : 0 < S) (ws : List Int) : 0 ≤ (shRest t S ws).sum := by
  induction ws with
  | nil => simp [shRest]
  | cons x ws ih =>
    have h1 := Int.emod_nonneg (t * x) (Int.ne_of_gt hS)
    simp only [shRest, List.map_cons, List.sum_cons] at ih ⊢
    omega
theorem shLeft_nonneg {t : Int} {ws : List Int} (hS : 0 < ws.sum) : 0 ≤ shLeft t ws.sum ws := by
  have h1 := out_sum t ws.sum ws
  have h2 := shRest_nonneg (t := t) hS ws
  have h3 : ws.sum * 0 ≤ ws.sum * shLeft t ws.sum ws := by
    rw [shLeft, Int.mul_sub, Int.mul_zero]
    have : ws.sum * t = t * ws.sum := Int.mul_comm _ _
    omega
  exact Int.le_of_mul_le_mul_left h3 hS
end Go.Proofs.Ytejfpajbkgfiaaa
/-
  Plain functions: what orders get of readings. No program here.
-/
namespace Go.Proofs.Ytejfpajbkgfiaaa

def wAt (os : List GOrd) (y : GRd) : List Int := wts os y.node (sgn y.amount)
def addS (a b : List Int) (s : Int) : List Int := List.zipWith (fun x y => x + s * y) a b
def alStep (os : List GOrd) (g : List Int) (y : GRd) : List Int := if (wAt os y).sum = 0 then g else addS g (shares (sgn y.amount * y.amount) (wAt os y)) (sgn y.amount)
def alTo (os : List GOrd) (rs : List GRd) (k : Nat) : List Int := (rs.take k).foldl (alStep os) (List.replicate os.length 0)
def al (os : List GOrd) (rs : List GRd) : List Int := alTo os rs rs.length
def unTo (os : List GOrd) (rs : List GRd) : Nat → List Int
  | 0 => []
  | k + 1 => if (wAt os (rs.getD k ⟨0, 0⟩)).sum = 0 then unTo os rs k ++ [(k : Int)] else unTo os rs k
theorem sgn_cases (a : Int) : sgn a = 1 ∨ sgn a = -1 := by unfold sgn; split <;> simp
theorem sgn_abs (a : Int) : 0 ≤ sgn a * a := by unfold sgn; split <;> omega
theorem wAt_len (os : List GOrd) (y : GRd) : (wAt os y).length = os.length := by simp [wAt, wts]
theorem wAt_bnd {nn : Int} {os : List GOrd} (h : ordsOk nn os = true) (y : GRd) : ∀ z ∈ wAt os y, 0 ≤ z ∧ z ≤ 30000 := wts_bnd h (sgn_cases _)
theorem wAt_get {os : List GOrd} {y : GRd} {p : Nat} {x : GOrd} (hx : os[p]? = some x) : (wAt os y).getD p 0 = wt y.node (sgn y.amount) x := by
  rw [wAt, wts, List.getD_eq_getElem?_getD, List.getElem?_map, hx]; rfl
theorem sum_pos_of {l : List Int} (h : ∀ z ∈ l, 0 ≤ z) (h0 : ¬ l.sum = 0) : 0 < l.sum := by
  have : 0 ≤ l.sum := by
    clear h0
    induction l with
    | nil => exact Int.le_refl _
    | cons x l ih =>
      have h1 := h x (List.mem_cons_self ..)
      have h2 := ih (fun z hz => h z (List.mem_cons_of_mem _ hz))
      rw [List.sum_cons]; omega
  omega
theorem sum_zero_all {l : List Int} (h : ∀ z ∈ l, 0 ≤ z) : l.sum = 0 ↔ ∀ z ∈ l, z = 0 := by
  induction l with
  | nil => simp
  | cons x l ih =>
    have h1 := h x (List.mem_cons_self ..)
    have ih := ih (fun z hz => h z (List.mem_cons_of_mem _ hz))
    have h2 : 0 ≤ l.sum := by
      by_cases e : l.sum = 0
      · omega
      · exact Int.le_of_lt (sum_pos_of (fun z hz => h z (List.mem_cons_of_mem _ hz)) e)
    rw [List.sum_cons]
    constructor
    · intro e z hz
      rcases List.mem_cons.1 hz with rfl | hz
      · omega
      · exact ih.1 (by omega) z hz
    · intro e
      have e1 := e x (List.mem_cons_self ..)
      have e2 := ih.2 (fun z hz => e z (List.mem_cons_of_mem _ hz))
      omega
/-- No place has a weight exactly if the weights have the sum 0. -/
theorem pos_nil {ws : List Int} (h : ∀ z ∈ ws, 0 ≤ z) : pos ws = [] ↔ ws.sum = 0 := by
  rw [sum_zero_all h]
  constructor
  · intro e z hz
    obtain ⟨i, hi, rfl⟩ := List.mem_iff_getElem.1 hz
    have h1 := h _ hz
    by_cases h0 : 0 < ws.getD i 0
    · have := mem_pos.2 ⟨hi, h0⟩
      rw [e] at this; cases this
    · have e2 : ws.getD i 0 = ws[i] := by simp [hi]
      omega
  · intro e
    rw [List.eq_nil_iff_forall_not_mem]
    intro i hi
    obtain ⟨h1, h2⟩ := mem_pos.1 hi
    have := e (ws.getD i 0) (by simp [h1])
    omega
theorem addS_len {a b : List Int} {s : Int} (h : b.length = a.length) : (addS a b s).length = a.length := by simp [addS, h]
theorem addS_getD {a b : List Int} (s : Int) (h : b.length = a.length) (i : Nat) : (addS a b s).getD i 0 = a.getD i 0 + s * b.getD i 0 := by
  rw [addS, List.getD_eq_getElem?_getD, List.getElem?_zipWith]
  by_cases hi : i < a.length
  · have hb : i < b.length := by omega
    simp [hi, hb]
  · rw [List.getElem?_eq_none (by omega)]
    have e1 : a.getD i 0 = 0 := by rw [List.getD_eq_getElem?_getD, List.getElem?_eq_none (by omega)]; rfl
    have e2 : b.getD i 0 = 0 := by rw [List.getD_eq_getElem?_getD, List.getElem?_eq_none (by omega)]; rfl
    rw [e1, e2]; simp
theorem alTo_step {os : List GOrd} {rs : List GRd} {k : Nat} {y : GRd} (hy : rs[k]? = some y) : alTo os rs (k + 1) = alStep os (alTo os rs k) y := by
  rw [alTo, alTo, foldl_take_succ _ _ _ _ _ hy]
theorem shares_len {nn : Int} {os : List GOrd} (h : ordsOk nn os = true) {y : GRd} {t : Int} (h0 : ¬ (wAt os y).sum = 0) : (shares t (wAt os y)).length = os.length := by
  have hw := fun z hz => (wAt_bnd h y z hz).1
  rw [(shares_cmp hw (sum_pos_of hw h0)).2.1, wAt_len]
theorem alTo_len {nn : Int} {os : List GOrd} (h : ordsOk nn os = true) (rs : List GRd) (k : Nat) : (alTo os rs k).length = os.length := by
  rw [alTo]
  generalize rs.take k = l
  have key : ∀ (l : List GRd) (g : List Int), g.length = os.length → (l.foldl (alStep os) g).length = os.length := by
    intro l
    induction l with
    | nil => intro g hg; exact hg
    | cons y l ih =>
      intro g hg
      rw [List.foldl_cons]
      refine ih _ ?_
      rw [alStep]
      split
      · exact hg
      · rename_i h0
        rw [addS_len (by rw [shares_len h h0, hg]), hg]
  exact key l _ (by simp)
/-- An order that no reading has matched so far has got nothing. -/
theorem alTo_none {nn : Int} {os : List GOrd} (h : ordsOk nn os = true) (rs : List GRd) (p : Nat) (hp : p < os.length) (k : Nat) (hno : ∀ j y, j < k → rs[j]? = some y → (wAt os y).getD p 0 ≤ 0) : (alTo os rs k).getD p 0 = 0 := by
  induction k with
  | zero => show (List.replicate os.length (0 : Int)).getD p 0 = 0; simp [hp]
  | succ k ih =>
    have ih := ih (fun j y hj hy => hno j y (by omega) hy)
    cases hy : rs[k]? with
    | none =>
      have hl : rs.length ≤ k := List.getElem?_eq_none_iff.1 hy
      rw [alTo, List.take_of_length_le (by omega)]
      rw [alTo, List.take_of_length_le hl] at ih
      exact ih
    | some y =>
      rw [alTo_step hy, alStep]
      split
      · exact ih
      · rename_i h0
        have hw := fun z hz => (wAt_bnd h y z hz).1
        have h1 := (shares_cmp (t := sgn y.amount * y.amount) hw (sum_pos_of hw h0)).2.2 p (by rw [wAt_len]; exact hp) (hno k y (by omega) hy)
        rw [addS_getD _ (by rw [shares_len h h0, alTo_len h]), ih, h1]; simp
theorem wt_pos {node sg : Int} {x : GOrd} (h : 0 < wt node sg x) : x.node = node ∧ 0 < sg * x.amount := by
  unfold wt at h
  split at h
  · rename_i e; exact ⟨e, by omega⟩
  · omega
theorem sgn_same {a b c : Int} (h1 : 0 < sgn a * c) (h2 : 0 < sgn b * c) : sgn a = sgn b := by
  rcases sgn_cases a with e | e <;> rcases sgn_cases b with e' | e' <;> rw [e] at h1 ⊢ <;> rw [e'] at h2 ⊢ <;> omega
/-- Of two readings only one matches an order. -/
theorem one_match {nn : Int} {rs : List GRd} (h : rdsOk nn rs = true) {j k : Nat} (hjk : j < k) {y z : GRd} (hy : rs[j]? = some y) (hz : rs[k]? = some z) {x : GOrd} (h1 : 0 < wt y.node (sgn y.amount) x) (h2 : 0 < wt z.node (sgn z.amount) x) : False := by
  obtain ⟨n1, s1⟩ := wt_pos h1
  obtain ⟨n2, s2⟩ := wt_pos h2
  have hs := sgn_same s1 s2
  have hky := (rdOk_all ((rdsOk_all h).2 j y hy)).2.2
  have hkz := (rdOk_all ((rdsOk_all h).2 k z hz)).2.2
  have hk := (List.getElem?_eq_some_iff.1 hz).1
  have hat : rdAt nn rs k z = true := by
    simp only [rdsOk, Bool.and_eq_true] at h
    have := List.all_eq_true.1 h.2 k (List.mem_range.2 hk)
    rw [hz] at this
    exact this
  rw [rdAt, Bool.and_eq_true, Bool.not_eq_true', List.any_eq_false] at hat
  have hmem : y ∈ rs.take k := by
    refine List.mem_iff_getElem?.2 ⟨j, ?_⟩
    rw [List.getElem?_take, if_pos hjk]; exact hy
  refine hat.2 y hmem ?_
  rw [rdClash, Bool.and_eq_true]
  refine ⟨by simp [← n1, ← n2], ?_⟩
  unfold sgn at hs
  split at hs <;> split at hs
  · simp; omega
  · simp at hs
  · simp at hs
  · simp; omega
theorem alTo_place {nn nn' : Int} {os : List GOrd} {rs : List GRd} (h : ordsOk nn os = true) (hr : rdsOk nn' rs = true) {k : Nat} {y : GRd} (hy : rs[k]? = some y) {p : Nat} (hp : p ∈ pos (wAt os y)) : (alTo os rs k).getD p 0 = 0 := by
  obtain ⟨h1, h2⟩ := mem_pos.1 hp
  rw [wAt_len] at h1
  obtain ⟨x, hx⟩ : ∃ x, os[p]? = some x := ⟨_, List.getElem?_eq_getElem h1⟩
  refine alTo_none h rs p h1 k fun j z hj hz => ?_
  rw [wAt_get hx]
  rw [wAt_get hx] at h2
  by_cases e : 0 < wt z.node (sgn z.amount) x
  · exact (one_match hr hj hz hy e h2).elim
  · omega
/-- The shares are laid at the places. -/
def layTo (g : List Int) (ps : List Nat) (vs : List Int) (s : Int) : Nat → List Int
  | 0 => g
  | i + 1 => (layTo g ps vs s i).set (ps.getD i 0) (s * vs.getD i 0)
theorem layTo_len (g : List Int) (ps : List Nat) (vs : List Int) (s : Int) (i : Nat) : (layTo g ps vs s i).length = g.length := by
  induction i with
  | zero => rfl
  | succ i ih => rw [layTo, List.length_set, ih]
theorem layTo_out {g : List Int} {ps : List Nat} {vs : List Int} {s : Int} {p : Nat} (i : Nat) (h : ∀ j, j < i → ps.getD j 0 ≠ p) : (layTo g ps vs s i).getD p 0 = g.getD p 0 := by
  induction i with
  | zero => rfl
  | succ i ih => rw [layTo, set_getD_ne (h i (by omega)), ih (fun j hj => h j (by omega))]
theorem layTo_in {g : List Int} {ps : List Nat} {vs : List Int} {s : Int} {j : Nat} (hps : ∀ a b, a < b → b < ps.length → ps.getD a 0 < ps.getD b 0) (hin : ∀ a, a < ps.length → ps.getD a 0 < g.length) (i : Nat) (hi : i ≤ ps.length) (hj : j < i) : (layTo g ps vs s i).getD (ps.getD j 0) 0 = s * vs.getD j 0 := by
  induction i with
  | zero => omega
  | succ i ih =>
    rw [layTo]
    by_cases e : j = i
    · subst e
      rw [set_getD_self (by rw [layTo_len]; exact hin j (by omega))]
    · rw [set_getD_ne (by have := hps j i (by omega) (by omega); omega)]
      exact ih (by omega) (by omega)
theorem pos_getD {ws : List Int} {j : Nat} (hj : j < (pos ws).length) : (pos ws).getD j 0 = (pos ws)[j] := by simp [hj]
theorem lay_all {g ws sh : List Int} (s : Int) (hg : g.length = ws.length) (hs : sh.length = ws.length) (h0 : ∀ p ∈ pos ws, g.getD p 0 = 0) (hz : ∀ i, i < ws.length → ws.getD i 0 ≤ 0 → sh.getD i 0 = 0) : layTo g (pos ws) (cmp ws sh) s (pos ws).length = addS g sh s := by
  apply List.ext_getElem?
  intro p
  have hl : (layTo g (pos ws) (cmp ws sh) s (pos ws).length).length = (addS g sh s).length := by rw [layTo_len, addS_len (by omega)]
  by_cases hp : p < g.length
  · rw [get_of_lt (by rw [layTo_len]; exact hp), get_of_lt (by rw [addS_len (by omega)]; exact hp)]
    congr 1
    rw [addS_getD s (by omega)]
    by_cases hw : 0 < ws.getD p 0
    · have hm := mem_pos.2 ⟨by omega, hw⟩
      obtain ⟨j, hj, rfl⟩ := List.mem_iff_getElem.1 hm
      rw [h0 _ hm, ← pos_getD hj, layTo_in (fun a b hab hb => by rw [pos_getD (by omega), pos_getD hb]; exact pos_get_lt hb hab) (fun a ha => by rw [pos_getD ha]; have := (mem_pos.1 (List.getElem_mem ha)).1; omega) _ (Nat.le_refl _) hj, cmp_getD hj, pos_getD hj]
      omega
    · rw [layTo_out _ (fun j hj e => ?_), hz p (by omega) (by omega)]
      · simp
      · rw [pos_getD hj] at e
        have := (mem_pos.1 (List.getElem_mem hj)).2
        rw [e] at this
        exact hw this
  · rw [List.getElem?_eq_none (by rw [layTo_len]; omega), List.getElem?_eq_none (by rw [← hl, layTo_len]; omega)]
/-- One reading, as the program deals it. -/
theorem al_places {nn nn' : Int} {os : List GOrd} {rs : List GRd} (h : ordsOk nn os = true) (hr : rdsOk nn' rs = true) {k : Nat} {y : GRd} (hy : rs[k]? = some y) (h0 : ¬ (wAt os y).sum = 0) :
    layTo (alTo os rs k) (pos (wAt os y)) (shares (sgn y.amount * y.amount) (cmp (wAt os y) (wAt os y))) (sgn y.amount) (pos (wAt os y)).length = alTo os rs (k + 1) := by
  have hw := fun z hz => (wAt_bnd h y z hz).1
  obtain ⟨c1, c2, c3⟩ := shares_cmp (t := sgn y.amount * y.amount) hw (sum_pos_of hw h0)
  rw [alTo_step hy, alStep, if_neg h0, ← c1]
  exact lay_all _ (by rw [alTo_len h, wAt_len]) (by rw [c2]) (fun p hp => alTo_place h hr hy hp) c3
/-- The places among the first k. -/
def posTo (ws : List Int) (k : Nat) : List Nat := (List.range k).filter fun i => decide (0 < ws.getD i 0)
theorem posTo_hit {ws : List Int} {k : Nat} (h : 0 < ws.getD k 0) : posTo ws (k + 1) = posTo ws k ++ [k] := by
  rw [posTo, List.range_succ, List.filter_append, List.filter_cons, if_pos (decide_eq_true h), List.filter_nil]; rfl
theorem posTo_miss {ws : List Int} {k : Nat} (h : ¬ 0 < ws.getD k 0) : posTo ws (k + 1) = posTo ws k := by
  rw [posTo, List.range_succ, List.filter_append, List.filter_cons, if_neg (by simpa using h), List.filter_nil, List.append_nil]; rfl
theorem posTo_len (ws : List Int) (k : Nat) : (posTo ws k).length ≤ k := by
  have := List.length_filter_le (fun i => decide (0 < ws.getD i 0)) (List.range k)
  simpa [posTo] using this
theorem posTo_full (ws : List Int) : posTo ws ws.length = pos ws := rfl
end Go.Proofs.Ytejfpajbkgfiaaa
