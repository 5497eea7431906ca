import Derived.Test.YtejfpajbkgfiaaaRouteM
import Derived.Test.YtejfpajbkgfiaaaScales
/-
  Plain functions: transports without amounts fit; the scales of curtailing. No program here.
-/
namespace Go.Proofs.Ytejfpajbkgfiaaa

theorem sumTo_zero (c : List Int) (m N k : Nat) : sumTo c (List.replicate m 0) N k = List.replicate N 0 := by
  induction k with
  | zero => rfl
  | succ k ih =>
    rw [sumTo_succ, ih, sumStep]
    have h0 : ∀ q j : Nat, (List.replicate q (0 : Int)).getD j 0 = 0 := fun q j => by
      rw [List.getD_eq_getElem?_getD, List.getElem?_replicate]; split <;> rfl
    rw [h0, h0]
    apply List.ext_getElem?
    intro j
    generalize (c.getD k 0).toNat = q
    by_cases e : q = j
    · subst e
      by_cases h : q < N
      · rw [List.getElem?_set_self (by simpa using h), List.getElem?_replicate, if_pos h]; rfl
      · rw [List.getElem?_eq_none (by simp; omega), List.getElem?_eq_none (by simp; omega)]
    · rw [List.getElem?_set_ne e]
theorem zeroB_zeros (N : Nat) : zeroB (List.replicate N 0) = true := by
  rw [zeroB, List.all_eq_true]
  intro z hz
  rw [(List.mem_replicate.1 hz).2]; rfl
theorem rt_zeros (es : List Ed) (N : Nat) : rt es N (List.replicate N 0) = (List.replicate es.length 0, List.replicate N 0) := by
  refine fin_eq (Reach.refl _) ?_
  intro h
  rw [rtGo, rtF, find_none (fun j _ => rtAt_low (by
    rw [List.getD_eq_getElem?_getD, List.getElem?_replicate]; split <;> simp))] at h
  cases h
theorem route_zeros {n : GNet} (hn : netOk n = true) : routeB n (List.replicate n.nodes.length 0) = true := by
  have h1 : supOk n.nodes.length (List.replicate n.nodes.length 0) = true := by
    rw [supOk, Bool.and_eq_true]
    refine ⟨by simp, List.all_eq_true.2 fun z hz => ?_⟩
    rw [(List.mem_replicate.1 hz).2]; rfl
  have h2 : suCode n (List.replicate n.nodes.length 0) = 0 := by rw [suCode, if_pos hn, if_pos h1]
  have h3 : evCode n (List.replicate n.nodes.length 0) = 0 := by
    rw [evCode, if_pos h2, if_pos]
    rw [evB, sumTo_zero]
    exact zeroB_zeros _
  rw [routeB, rsCode, if_pos h3, rt_zeros, if_pos (zeroB_zeros _)]; rfl
theorem sup_none (nn : Nat) (l : List GTr) (h : ∀ x ∈ l, x.amount = 0) : supplies nn l = List.replicate nn 0 := by
  have z : ∀ k : Nat, addAt (List.replicate nn 0) k 0 = List.replicate nn 0 := by
    intro k
    unfold addAt
    have h0 : (List.replicate nn (0 : Int)).getD k 0 = 0 := by rw [List.getD_eq_getElem?_getD, List.getElem?_replicate]; split <;> rfl
    rw [h0]
    apply List.ext_getElem?
    intro j
    by_cases e : k = j
    · subst e
      by_cases h : k < nn
      · rw [List.getElem?_set_self (by simpa using h), List.getElem?_replicate, if_pos h]; rfl
      · rw [List.getElem?_eq_none (by simp; omega), List.getElem?_eq_none (by simp; omega)]
    · rw [List.getElem?_set_ne e]
  unfold supplies
  induction l with
  | nil => rfl
  | cons x l ih =>
    rw [List.foldl_cons]
    have hx : x.amount = 0 := h x (List.mem_cons_self ..)
    have e : supStep (List.replicate nn 0) x = List.replicate nn 0 := by
      rw [supStep, hx, z, Int.neg_zero, z]
    rw [e]
    exact ih (fun y hy => h y (List.mem_cons_of_mem _ hy))
noncomputable def fitB (n : GNet) (l : List GTr) : Bool := routeB n (supplies n.nodes.length l)
theorem fit_none {n : GNet} (hn : netOk n = true) (l : List GTr) (h : ∀ x ∈ l, x.amount = 0) : fitB n l = true := by
  rw [fitB, sup_none _ _ h]; exact route_zeros hn
noncomputable def fitS (n : GNet) (l : List GTr) (sc : List Int) : Bool := fitB n (scaled sc l)
theorem fitS_zero {n : GNet} (hn : netOk n = true) (l : List GTr) : fitS n l (List.replicate 4 0) = true := by
  refine fit_none hn _ fun x hx => ?_
  rw [scaled, List.mem_map] at hx
  obtain ⟨y, _, rfl⟩ := hx
  show scaleAmt _ y = 0
  rw [scaleAmt]
  have h0 : (List.replicate 4 (0 : Int)).getD y.cls.toNat 0 = 0 := by rw [List.getD_eq_getElem?_getD, List.getElem?_replicate]; split <;> rfl
  rw [h0, Int.mul_zero]; rfl
/-- The greatest number up to m at which p holds, or 0. -/
def topS (p : Nat → Bool) : Nat → Nat
  | 0 => 0
  | m + 1 => if p (m + 1) then m + 1 else topS p m
theorem topS_le (p : Nat → Bool) (m : Nat) : topS p m ≤ m := by
  induction m with
  | zero => exact Nat.le_refl _
  | succ m ih => rw [topS]; split <;> omega
theorem topS_holds {p : Nat → Bool} (h : p 0 = true) (m : Nat) : p (topS p m) = true := by
  induction m with
  | zero => exact h
  | succ m ih =>
    rw [topS]
    by_cases e : p (m + 1) = true
    · rw [if_pos e]; exact e
    · rw [if_neg e]; exact ih
theorem topS_at {p : Nat → Bool} {m : Nat} (h : p m = true) : topS p m = m := by
  cases m with
  | zero => rfl
  | succ m => rw [topS, if_pos h]
theorem topS_not {p : Nat → Bool} {m : Nat} (h : p (m + 1) = false) : topS p (m + 1) = topS p m := by
  rw [topS, if_neg (by simp [h])]
theorem topS_above {p : Nat → Bool} {m j : Nat} (h1 : topS p m < j) (h2 : j ≤ m) : p j = false := by
  induction m with
  | zero => omega
  | succ m ih =>
    rw [topS] at h1
    by_cases e : p (m + 1) = true
    · rw [if_pos e] at h1; omega
    · rw [if_neg e] at h1
      by_cases ej : j = m + 1
      · rw [ej]; simpa using e
      · exact ih h1 (by omega)
noncomputable def curStep (n : GNet) (l : List GTr) (sc : List Int) (k : Nat) : List Int := sc.set k (topS (fun s => fitS n l (sc.set k (s : Int))) 100 : Nat)
noncomputable def curTo (n : GNet) (l : List GTr) (k : Nat) : List Int := (List.range k).foldl (curStep n l) (List.replicate 4 0)
noncomputable def curs (n : GNet) (l : List GTr) : List Int := curTo n l 4
theorem curTo_succ (n : GNet) (l : List GTr) (k : Nat) : curTo n l (k + 1) = curStep n l (curTo n l k) k := by
  rw [curTo, List.range_succ, List.foldl_append]; rfl
theorem scOk_set {sc : List Int} (h : scOk sc = true) (k : Nat) {s : Int} (h0 : 0 ≤ s) (h1 : s ≤ 100) : scOk (sc.set k s) = true := by
  rw [scOk, Bool.and_eq_true] at h ⊢
  refine ⟨by simpa using h.1, List.all_eq_true.2 fun z hz => ?_⟩
  rcases List.mem_or_eq_of_mem_set hz with e | e
  · exact List.all_eq_true.1 h.2 z e
  · rw [e]; simp [inB, h0, h1]
theorem scOk_zero : scOk (List.replicate 4 0) = true := by decide
theorem curTo_spec {n : GNet} (hn : netOk n = true) (l : List GTr) (k : Nat) (hk : k ≤ 4) : scOk (curTo n l k) = true ∧ fitS n l (curTo n l k) = true ∧ ∀ j, k ≤ j → (curTo n l k).getD j 0 = 0 := by
  induction k with
  | zero =>
    refine ⟨scOk_zero, fitS_zero hn l, fun j _ => ?_⟩
    show (List.replicate 4 (0 : Int)).getD j 0 = 0
    rw [List.getD_eq_getElem?_getD, List.getElem?_replicate]; split <;> rfl
  | succ k ih =>
    obtain ⟨h1, h2, h3⟩ := ih (by omega)
    have hl : (curTo n l k).length = 4 := (scOk_all h1).1
    have hset : (curTo n l k).set k ((0 : Nat) : Int) = curTo n l k := by
      apply List.ext_getElem?
      intro j
      by_cases e : k = j
      · subst e
        rw [List.getElem?_set_self (by omega)]
        have := h3 k (Nat.le_refl _)
        rw [List.getD_eq_getElem?_getD, List.getElem?_eq_getElem (by omega)] at this
        rw [List.getElem?_eq_getElem (by omega)]
        simpa using this.symm
      · rw [List.getElem?_set_ne e]
    have hp0 : (fun s : Nat => fitS n l ((curTo n l k).set k (s : Int))) 0 = true := by
      show fitS n l ((curTo n l k).set k ((0 : Nat) : Int)) = true
      rw [hset]; exact h2
    have hle := topS_le (fun s : Nat => fitS n l ((curTo n l k).set k (s : Int))) 100
    rw [curTo_succ, curStep]
    have htop := topS_holds (p := fun s : Nat => fitS n l ((curTo n l k).set k (s : Int))) hp0 100
    refine ⟨scOk_set h1 k (by omega) (by omega), htop, fun j hj => ?_⟩
    have e : k ≠ j := by omega
    rw [List.getD_eq_getElem?_getD, List.getElem?_set_ne e, ← List.getD_eq_getElem?_getD]
    exact h3 j (by omega)
theorem cur_same {n : GNet} (hn : netOk n = true) (l : List GTr) {k : Nat} (hk : k < 4) : (curTo n l k).set k ((0 : Nat) : Int) = curTo n l k := by
  obtain ⟨h1, h2, h3⟩ := curTo_spec hn l k (by omega)
  have hl : (curTo n l k).length = 4 := (scOk_all h1).1
  apply List.ext_getElem?
  intro j
  by_cases e : k = j
  · subst e
    rw [List.getElem?_set_self (by omega)]
    have := h3 k (Nat.le_refl _)
    rw [List.getD_eq_getElem?_getD, List.getElem?_eq_getElem (by omega)] at this
    rw [List.getElem?_eq_getElem (by omega)]
    simpa using this.symm
  · rw [List.getElem?_set_ne e]
theorem cur_zero {n : GNet} (hn : netOk n = true) (l : List GTr) {k : Nat} (hk : k < 4) : fitS n l ((curTo n l k).set k ((0 : Nat) : Int)) = true := by
  rw [cur_same hn l hk]; exact (curTo_spec hn l k (by omega)).2.1
/-- The test of one scale. -/
noncomputable def curP (n : GNet) (l : List GTr) (k : Nat) (s : Nat) : Bool := fitS n l ((curTo n l k).set k (s : Int))
theorem curTo_next (n : GNet) (l : List GTr) (k : Nat) : curTo n l (k + 1) = (curTo n l k).set k ((topS (curP n l k) 100 : Nat) : Int) := curTo_succ n l k
theorem cur_pos {n : GNet} (hn : netOk n = true) (l : List GTr) {k s : Nat} (hk : k < 4) (h : curP n l k s = false) : ∃ t, s = t + 1 := by
  cases s with
  | zero => rw [curP, cur_zero hn l hk] at h; cases h
  | succ t => exact ⟨t, rfl⟩
/-- Scaled transports are transports. -/
theorem scaled_ok {nn : Int} {l : List GTr} {sc : List Int} (h : trsOk nn l = true) (hs : scOk sc = true) : trsOk nn (scaled sc l) = true := by
  obtain ⟨h1, h2⟩ := trsOk_all h
  rw [trsOk, Bool.and_eq_true]
  refine ⟨by simp [scaled, h1], List.all_eq_true.2 fun y hy => ?_⟩
  rw [scaled, List.mem_map] at hy
  obtain ⟨x, hx, rfl⟩ := hy
  obtain ⟨i, hi⟩ := List.mem_iff_getElem?.1 hx
  have ho := h2 i x hi
  obtain ⟨p1, p2, p3, p4, p5⟩ := trOk_all ho
  have hsc : 0 ≤ sc.getD x.cls.toNat 0 ∧ sc.getD x.cls.toNat 0 ≤ 100 := by
    rw [List.getD_eq_getElem?_getD]
    cases e : sc[x.cls.toNat]? with
    | none => simp
    | some z => simpa using (scOk_all hs).2 _ z e
  have hm := mul_bnd p4 hsc
  have hle : x.amount * sc.getD x.cls.toNat 0 ≤ x.amount * 100 := Int.mul_le_mul_of_nonneg_left hsc.2 p4.1
  have hq : 0 ≤ scaleAmt sc x ∧ scaleAmt sc x ≤ 30000 := by rw [scaleAmt]; omega
  unfold trOk at ho ⊢
  simp only [scaleOne, Bool.and_eq_true] at ho ⊢
  simp_all [inB]
end Go.Proofs.Ytejfpajbkgfiaaa
/-
  Plain functions: what the functions on curtailing return. No program here.
-/
namespace Go.Proofs.Ytejfpajbkgfiaaa

theorem curs_ok {n : GNet} (hn : netOk n = true) (l : List GTr) : scOk (curs n l) = true := (curTo_spec hn l 4 (Nat.le_refl _)).1
theorem curs_len {n : GNet} (hn : netOk n = true) (l : List GTr) : (curs n l).length = 4 := (scOk_all (curs_ok hn l)).1
theorem curs_bnd {n : GNet} (hn : netOk n = true) (l : List GTr) (k : Nat) : 0 ≤ (curs n l).getD k 0 ∧ (curs n l).getD k 0 ≤ 100 := by
  rw [List.getD_eq_getElem?_getD]
  cases e : (curs n l)[k]? with
  | none => simp
  | some z => simpa using (scOk_all (curs_ok hn l)).2 k z e
noncomputable def cuRes (n : GNet) (l : List GTr) : List Int := if trCode n l = 0 then curs n l else []
noncomputable def ctRes (n : GNet) (l : List GTr) : List GTr := if trCode n l = 0 then scaled (curs n l) l else []
noncomputable def lostOne (n : GNet) (l : List GTr) (x : GTr) : Int := x.amount - scaleAmt (curs n l) x
noncomputable def caRes (n : GNet) (l : List GTr) : List Int := if trCode n l = 0 then l.map (lostOne n l) else []
noncomputable def fcAt (n : GNet) (l : List GTr) (k : Nat) : Bool := decide ((curs n l).getD k 0 < 100) && decide (0 < (amounts l).getD k 0)
noncomputable def ckAt (n : GNet) (l : List GTr) (sc : List Int) (k : Nat) : Bool := !(sc.getD k 0 == (curs n l).getD k 0)
/-- The least number below m at which p holds. -/
def leastB (p : Nat → Bool) (m : Nat) : Option Nat := (List.range m).find? p
theorem leastB_hit {p : Nat → Bool} {m k : Nat} (hk : k < m) (h : p k = true) (hno : ∀ j, j < k → p j = false) : leastB p m = some k := by
  induction m with
  | zero => omega
  | succ m ih =>
    rw [leastB, List.range_succ, List.find?_append]
    by_cases e : k = m
    · subst e
      have h0 : (List.range k).find? p = none := List.find?_eq_none.2 fun j hj => by simp [hno j (List.mem_range.1 hj)]
      rw [h0]; simp [h]
    · have := ih (by omega)
      rw [leastB] at this
      rw [this]; rfl
theorem leastB_none {p : Nat → Bool} {m : Nat} (hno : ∀ j, j < m → p j = false) : leastB p m = none :=
  List.find?_eq_none.2 fun j hj => by simp [hno j (List.mem_range.1 hj)]
theorem nb_next {p : Nat → Bool} {k : Nat} (hk : p k = false) (h : ∀ j, j < k → p j = false) : ∀ j, j < k + 1 → p j = false := by
  intro j hj
  by_cases e : j = k
  · rw [e]; exact hk
  · exact h j (by omega)
def orI (d : Int) : Option Nat → Int
  | none => d
  | some k => (k : Int)
noncomputable def fcVal (n : GNet) (l : List GTr) : Int := if trCode n l = 0 then orI 0 (leastB (fcAt n l) 4) else 0
noncomputable def fcCode (n : GNet) (l : List GTr) : Int := if trCode n l = 0 then (if (leastB (fcAt n l) 4).isSome then 0 else 4) else trCode n l
noncomputable def ckVal (n : GNet) (l : List GTr) (sc : List Int) : Int := if scCode n l sc = 0 then orI (-1) (leastB (ckAt n l sc) 4) else 0
def amtSum (l : List GTr) : Int := (l.map GTr.amount).sum
noncomputable def ssVal (n : GNet) (l : List GTr) : Int := if trCode n l = 0 then (if amtSum l = 0 then 100 else 100 * amtSum (scaled (curs n l) l) / amtSum l) else 0
theorem addAt_sum (l : List Int) (k : Nat) (d : Int) (hk : k < l.length) : (addAt l k d).sum = l.sum + d := by
  induction l generalizing k with
  | nil => simp at hk
  | cons x l ih =>
    cases k with
    | zero => simp [addAt]; omega
    | succ k =>
      have := ih k (by simpa using hk)
      simp only [addAt, List.getD_cons_succ, List.set_cons_succ, List.sum_cons] at this ⊢
      omega
theorem amt_sum {nn : Int} (l : List GTr) (h : ∀ x ∈ l, trOk nn x = true) (acc : List Int) (ha : acc.length = 4) : (l.foldl amtStep acc).sum = acc.sum + amtSum l := by
  induction l generalizing acc with
  | nil => simp [amtSum]
  | cons x l ih =>
    obtain ⟨_, _, _, _, p5⟩ := trOk_all (h x (List.mem_cons_self ..))
    rw [List.foldl_cons, ih (fun y hy => h y (List.mem_cons_of_mem _ hy)) _ (by simp [amtStep, addAt_length, ha]), amtStep, addAt_sum _ _ _ (by omega)]
    simp [amtSum]; omega
theorem trsOk_mem {nn : Int} {l : List GTr} (h : trsOk nn l = true) : ∀ x ∈ l, trOk nn x = true := by
  intro x hx
  obtain ⟨i, hi⟩ := List.mem_iff_getElem?.1 hx
  exact (trsOk_all h).2 i x hi
theorem amounts_sum {nn : Int} {l : List GTr} (h : trsOk nn l = true) : (amounts l).sum = amtSum l := by
  rw [amounts, amt_sum l (trsOk_mem h) _ (by simp)]; simp
theorem amtSum_bnd {nn : Int} {l : List GTr} (h : ∀ x ∈ l, trOk nn x = true) : 0 ≤ amtSum l ∧ amtSum l ≤ 30000 * l.length := by
  induction l with
  | nil => simp [amtSum]
  | cons x l ih =>
    obtain ⟨_, _, _, p4, _⟩ := trOk_all (h x (List.mem_cons_self ..))
    have := ih (fun y hy => h y (List.mem_cons_of_mem _ hy))
    simp [amtSum] at this ⊢
    omega
theorem amtSum_lim {nn : Int} {l : List GTr} (h : trsOk nn l = true) : 0 ≤ amtSum l ∧ amtSum l ≤ 960000 := by
  have h1 := amtSum_bnd (trsOk_mem h)
  have h2 := (trsOk_all h).1
  omega
theorem amtSum_take {l : List GTr} {k : Nat} {x : GTr} (hx : l[k]? = some x) : amtSum (l.take (k + 1)) = amtSum (l.take k) + x.amount := by
  rw [amtSum, amtSum, map_take_succ GTr.amount l hx]; simp
theorem amtSum_take_bnd {nn : Int} {l : List GTr} (h : trsOk nn l = true) (k : Nat) : 0 ≤ amtSum (l.take k) ∧ amtSum (l.take k) ≤ 960000 := by
  have h1 := amtSum_bnd (mem_take_ok h k)
  have h2 := (trsOk_all h).1
  have : (l.take k).length ≤ 32 := by simp; omega
  omega
theorem lost_bnd {n : GNet} {nn : Int} {l : List GTr} (hn : netOk n = true) (h : trsOk nn l = true) {k : Nat} {x : GTr} (hx : l[k]? = some x) : (0 ≤ x.amount ∧ x.amount ≤ 30000) ∧ (0 ≤ scaleAmt (curs n l) x ∧ scaleAmt (curs n l) x ≤ 30000) := by
  obtain ⟨_, _, _, p4, _⟩ := trOk_all ((trsOk_all h).2 k x hx)
  refine ⟨p4, ?_⟩
  have hs := curs_bnd hn l x.cls.toNat
  have hm := mul_bnd p4 hs
  rw [scaleAmt]; omega
theorem amounts_len (l : List GTr) : (amounts l).length = 4 := by rw [amounts, amt_length]; simp
theorem amounts_bnd {nn : Int} {l : List GTr} (h : trsOk nn l = true) (k : Nat) : -960000 ≤ (amounts l).getD k 0 ∧ (amounts l).getD k 0 ≤ 960000 := by
  have h1 := (amt_at h l.length).2
  rw [List.take_length] at h1
  exact h1.getD (by omega) k
end Go.Proofs.Ytejfpajbkgfiaaa
