/-
  Plain functions: what the functions on curtailing return. No program here.
-/
import Derived.Test.YtejfpajbkgfiaaaCurtM
import Derived.Test.YtejfpajbkgfiaaaScales
namespace Go.Proofs.Ytejfpajbkgfiaaa

theorem curs_ok {n : GNet} (hn : netOk n = true) (l : List GTr) : scOk (curs n l) = true := (curTo_spec hn l 4 (Nat.le_refl _)).1
theorem curs_len {n : GNet} (hn : netOk n = true) (l : List GTr) : (curs n l).length = 4 := (scOk_all (curs_ok hn l)).1
theorem curs_bnd {n : GNet} (hn : netOk n = true) (l : List GTr) (k : Nat) : 0 ≤ (curs n l).getD k 0 ∧ (curs n l).getD k 0 ≤ 100 := by
  rw [List.getD_eq_getElem?_getD]
  cases e : (curs n l)[k]? with
  | none => simp
  | some z => simpa using (scOk_all (curs_ok hn l)).2 k z e
noncomputable def cuRes (n : GNet) (l : List GTr) : List Int := if trCode n l = 0 then curs n l else []
noncomputable def ctRes (n : GNet) (l : List GTr) : List GTr := if trCode n l = 0 then scaled (curs n l) l else []
noncomputable def lostOne (n : GNet) (l : List GTr) (x : GTr) : Int := x.amount - scaleAmt (curs n l) x
noncomputable def caRes (n : GNet) (l : List GTr) : List Int := if trCode n l = 0 then l.map (lostOne n l) else []
noncomputable def fcAt (n : GNet) (l : List GTr) (k : Nat) : Bool := decide ((curs n l).getD k 0 < 100) && decide (0 < (amounts l).getD k 0)
noncomputable def ckAt (n : GNet) (l : List GTr) (sc : List Int) (k : Nat) : Bool := !(sc.getD k 0 == (curs n l).getD k 0)
/-- The least number below m at which p holds. -/
def leastB (p : Nat → Bool) (m : Nat) : Option Nat := (List.range m).find? p
theorem leastB_hit {p : Nat → Bool} {m k : Nat} (hk : k < m) (h : p k = true) (hno : ∀ j, j < k → p j = false) : leastB p m = some k := by
  induction m with
  | zero => omega
  | succ m ih =>
    rw [leastB, List.range_succ, List.find?_append]
    by_cases e : k = m
    · subst e
      have h0 : (List.range k).find? p = none := List.find?_eq_none.2 fun j hj => by simp [hno j (List.mem_range.1 hj)]
      rw [h0]; simp [h]
    · have := ih (by omega)
      rw [leastB] at this
      rw [this]; rfl
theorem leastB_none {p : Nat → Bool} {m : Nat} (hno : ∀ j, j < m → p j = false) : leastB p m = none :=
  List.find?_eq_none.2 fun j hj => by simp [hno j (List.mem_range.1 hj)]
theorem nb_next {p : Nat → Bool} {k : Nat} (hk : p k = false) (h : ∀ j, j < k → p j = false) : ∀ j, j < k + 1 → p j = false := by
  intro j hj
  by_cases e : j = k
  · rw [e]; exact hk
  · exact h j (by omega)
def orI (d : Int) : Option Nat → Int
  | none => d
  | some k => (k : Int)
noncomputable def fcVal (n : GNet) (l : List GTr) : Int := if trCode n l = 0 then orI 0 (leastB (fcAt n l) 4) else 0
noncomputable def fcCode (n : GNet) (l : List GTr) : Int := if trCode n l = 0 then (if (leastB (fcAt n l) 4).isSome then 0 else 4) else trCode n l
noncomputable def ckVal (n : GNet) (l : List GTr) (sc : List Int) : Int := if scCode n l sc = 0 then orI (-1) (leastB (ckAt n l sc) 4) else 0
def amtSum (l : List GTr) : Int := (l.map GTr.amount).sum
noncomputable def ssVal (n : GNet) (l : List GTr) : Int := if trCode n l = 0 then (if amtSum l = 0 then 100 else 100 * amtSum (scaled (curs n l) l) / amtSum l) else 0
theorem addAt_sum (l : List Int) (k : Nat) (d : Int) (hk : k < l.length) : (addAt l k d).sum = l.sum + d := by
  induction l generalizing k with
  | nil => simp at hk
  | cons x l ih =>
    cases k with
    | zero => simp [addAt]; omega
    | succ k =>
      have := ih k (by simpa using hk)
      simp only [addAt, List.getD_cons_succ, List.set_cons_succ, List.sum_cons] at this ⊢
      omega
theorem amt_sum {nn : Int} (l : List GTr) (h : ∀ x ∈ l, trOk nn x = true) (acc : List Int) (ha : acc.length = 4) : (l.foldl amtStep acc).sum = acc.sum + amtSum l := by
  induction l generalizing acc with
  | nil => simp [amtSum]
  | cons x l ih =>
    obtain ⟨_, _, _, _, p5⟩ := trOk_all (h x (List.mem_cons_self ..))
    rw [List.foldl_cons, ih (fun y hy => h y (List.mem_cons_of_mem _ hy)) _ (by simp [amtStep, addAt_length, ha]), amtStep, addAt_sum _ _ _ (by omega)]
    simp [amtSum]; omega
theorem trsOk_mem {nn : Int} {l : List GTr} (h : trsOk nn l = true) : ∀ x ∈ l, trOk nn x = true := by
  intro x hx
  obtain ⟨i, hi⟩ := List.mem_iff_getElem?.1 hx
  exact (trsOk_all h).2 i x hi
theorem amounts_sum {nn : Int} {l : List GTr} (h : trsOk nn l = true) : (amounts l).sum = amtSum l := by
  rw [amounts, amt_sum l (trsOk_mem h) _ (by simp)]; simp
theorem amtSum_bnd {nn : Int} {l : List GTr} (h : ∀ x ∈ l, trOk nn x = true) : 0 ≤ amtSum l ∧ amtSum l ≤ 30000 * l.length := by
  induction l with
  | nil => simp [amtSum]
  | cons x l ih =>
    obtain ⟨_, _, _, p4, _⟩ := trOk_all (h x (List.mem_cons_self ..))
    have := ih (fun y hy => h y (List.mem_cons_of_mem _ hy))
    simp [amtSum] at this ⊢
    omega
theorem amtSum_lim {nn : Int} {l : List GTr} (h : trsOk nn l = true) : 0 ≤ amtSum l ∧ amtSum l ≤ 960000 := by
  have h1 := amtSum_bnd (trsOk_mem h)
  have h2 := (trsOk_all h).1
  omega
theorem amtSum_take {l : List GTr} {k : Nat} {x : GTr} (hx : l[k]? = some x) : amtSum (l.take (k + 1)) = amtSum (l.take k) + x.amount := by
  rw [amtSum, amtSum, map_take_succ GTr.amount l hx]; simp
theorem amtSum_take_bnd {nn : Int} {l : List GTr} (h : trsOk nn l = true) (k : Nat) : 0 ≤ amtSum (l.take k) ∧ amtSum (l.take k) ≤ 960000 := by
  have h1 := amtSum_bnd (mem_take_ok h k)
  have h2 := (trsOk_all h).1
  have : (l.take k).length ≤ 32 := by simp; omega
  omega
theorem lost_bnd {n : GNet} {nn : Int} {l : List GTr} (hn : netOk n = true) (h : trsOk nn l = true) {k : Nat} {x : GTr} (hx : l[k]? = some x) : (0 ≤ x.amount ∧ x.amount ≤ 30000) ∧ (0 ≤ scaleAmt (curs n l) x ∧ scaleAmt (curs n l) x ≤ 30000) := by
  obtain ⟨_, _, _, p4, _⟩ := trOk_all ((trsOk_all h).2 k x hx)
  refine ⟨p4, ?_⟩
  have hs := curs_bnd hn l x.cls.toNat
  have hm := mul_bnd p4 hs
  rw [scaleAmt]; omega
theorem amounts_len (l : List GTr) : (amounts l).length = 4 := by rw [amounts, amt_length]; simp
theorem amounts_bnd {nn : Int} {l : List GTr} (h : trsOk nn l = true) (k : Nat) : -960000 ≤ (amounts l).getD k 0 ∧ (amounts l).getD k 0 ≤ 960000 := by
  have h1 := (amt_at h l.length).2
  rw [List.take_length] at h1
  exact h1.getD (by omega) k
end Go.Proofs.Ytejfpajbkgfiaaa
