/-
  Plain laws of conflicts: what is thinned is minimal, what is accepted fits, a reliever relieves. No program here.
-/
import Derived.Test.YtejfpajbkgfiaaaConfA
import Derived.Test.YtejfpajbkgfiaaaConfA
namespace Go.Proofs.Ytejfpajbkgfiaaa

theorem tpass_p {p : List Int → Bool} {kept rest : List Int} (h : p (kept ++ rest) = true) : p (tpass p kept rest).1 = true := by
  induction rest generalizing kept with
  | nil => simpa [tpass] using h
  | cons x rest ih =>
    cases h1 : p (kept ++ rest) with
    | true => rw [tpass_hit h1]; exact ih h1
    | false => rw [tpass_miss h1]; exact ih (by simpa using h)
theorem tpass_min {p : List Int → Bool} {kept rest : List Int} (h : (tpass p kept rest).2 = false) : ∀ i, i < rest.length → p (kept ++ cutAt rest i) = false := by
  induction rest generalizing kept with
  | nil => intro i hi; simp at hi
  | cons x rest ih =>
    cases h1 : p (kept ++ rest) with
    | true => rw [tpass_hit h1] at h; cases h
    | false =>
      rw [tpass_miss h1] at h
      intro i hi
      cases i with
      | zero => simpa [cutAt] using h1
      | succ i =>
        have := ih h i (by simpa using hi)
        simpa [cutAt] using this
theorem tall_all (p : List Int → Bool) (s : List Int) : (tall p s).Sublist s ∧ (p s = true → p (tall p s) = true) ∧ (tpass p [] (tall p s)).2 = false := by
  generalize hn : s.length = k
  induction k using Nat.strongRecOn generalizing s with
  | _ k ih =>
    cases h : (tpass p [] s).2 with
    | false => rw [tall_done h]; exact ⟨List.Sublist.refl _, id, h⟩
    | true =>
      have hl := tpass_less p [] s h
      obtain ⟨a, b, c⟩ := ih _ (by simp at hl; omega) (tpass p [] s).1 rfl
      rw [tall_more h]
      have hs := tpass_sub p [] s
      rw [List.nil_append] at hs
      exact ⟨a.trans hs, fun hp => b (tpass_p (by simpa using hp)), c⟩
theorem setOk_pw {hi : Int} {s : List Int} : setOk hi s = true ↔ (∀ z ∈ s, 0 ≤ z ∧ z ≤ hi) ∧ s.Pairwise (· < ·) := by
  constructor
  · intro h
    have hi' : incOk s = true := by rw [setOk_eq, Bool.and_eq_true] at h; exact h.2
    refine ⟨fun z hz => ?_, List.pairwise_iff_getElem.2 fun i j hi2 hj hij => ?_⟩
    · obtain ⟨k, hk⟩ := List.mem_iff_getElem?.1 hz
      exact setOk_at h k z hk
    · have := incOk_lt hi' i (j - i - 1) (by omega)
      have e : i + 1 + (j - i - 1) = j := by omega
      rw [e] at this
      have e1 : s.getD i 0 = s[i] := by simp [hi2]
      have e2 : s.getD j 0 = s[j] := by simp [hj]
      rw [e1, e2] at this
      exact this
  · rintro ⟨h1, h2⟩
    refine all_range.2 fun k hk => ?_
    have e : s.getD k 0 = s[k] := by simp [hk]
    rw [setAt, Bool.and_eq_true, inB_iff, e]
    refine ⟨h1 _ (List.getElem_mem hk), ?_⟩
    rw [incAt, e]
    by_cases h0 : k = 0
    · simp [h0]
    · have hk1 : k - 1 < s.length := by omega
      have e1 : s.getD (k - 1) 0 = s[k - 1] := by simp [hk1]
      have := List.pairwise_iff_getElem.1 h2 (k - 1) k hk1 hk (by omega)
      rw [e1]; simp [this]
theorem setOk_sub {hi : Int} {s t : List Int} (h : setOk hi s = true) (hs : t.Sublist s) : setOk hi t = true :=
  setOk_pw.2 ⟨fun z hz => (setOk_pw.1 h).1 z (hs.subset hz), (setOk_pw.1 h).2.sublist hs⟩
theorem conf_nil {n : GNet} (hn : netOk n = true) (l : List GTr) : confB n l [] = false := by
  rw [confB, pick, List.map_nil, fit_none hn [] (fun x hx => by cases hx)]; rfl
theorem cfCode_zero {n : GNet} {l : List GTr} {s : List Int} (h : cfCode n l s = 0) : csCode n l s = 0 ∧ confB n l s = true := by
  by_cases e : csCode n l s = 0
  · rw [cfCode, if_pos e] at h
    by_cases e' : confB n l s = true
    · exact ⟨e, e'⟩
    · rw [if_neg e'] at h; cases h
  · rw [cfCode, if_neg e] at h; exact absurd h e
theorem csCode_ok {n : GNet} {l : List GTr} {s : List Int} (h1 : trCode n l = 0) (h2 : setOk ((l.length : Int) - 1) s = true) : csCode n l s = 0 := by
  rw [csCode, if_pos h1, if_pos h2]
theorem thRes_zero {n : GNet} {l : List GTr} {s : List Int} (h : cfCode n l s = 0) : thRes n l s = tall (confB n l) s := by rw [thRes, if_pos h]
/-- Thinning leaves a minimal conflict. -/
theorem thin_law {n : GNet} {l : List GTr} {s : List Int} (h : cfCode n l s = 0) :
    (∀ z ∈ thRes n l s, z ∈ s) ∧ minB n l (thRes n l s) = true ∧ isConfB n l (thRes n l s) = true ∧ 0 < (thRes n l s).length := by
  obtain ⟨h1, h2⟩ := cfCode_zero h
  obtain ⟨h3, h4⟩ := csCode_zero h1
  obtain ⟨a, b, c⟩ := tall_all (confB n l) s
  have hc := csCode_ok h3 (setOk_sub h4 a)
  have hp := b h2
  rw [thRes_zero h]
  refine ⟨fun z hz => a.subset hz, ?_, ?_, ?_⟩
  · rw [minB, hc, hp, Bool.and_eq_true, Bool.and_eq_true]
    refine ⟨rfl, rfl, all_range.2 fun i hi => ?_⟩
    have := tpass_min c i hi
    rw [List.nil_append] at this
    rw [this]; rfl
  · rw [isConfB, hc, hp]; rfl
  · rcases Nat.eq_zero_or_pos (tall (confB n l) s).length with e | e
    · rw [List.length_eq_zero_iff.1 e, conf_nil (trCode_zero h3).1] at hp; cases hp
    · exact e
theorem acc_fits {n : GNet} (hn : netOk n = true) (l : List GTr) (k : Nat) : confB n l (accTo (confB n l) k) = false := by
  induction k with
  | zero => exact conf_nil hn l
  | succ k ih =>
    rw [accTo]
    split
    · exact ih
    · rename_i h; simpa using h
theorem pick_idx (l : List GTr) : pick l (idx l.length) = l := by
  apply List.ext_getElem?
  intro i
  rw [pick, List.getElem?_map]
  by_cases h : i < l.length
  · rw [idx_get h]; simp [h]
  · rw [List.getElem?_eq_none (by rw [idx_len]; omega), List.getElem?_eq_none (by omega)]; rfl
/-- What the law on found conflicts asks where the list is one of transports. -/
theorem found_law {n : GNet} {l : List GTr} (h : trCode n l = 0) :
    isConfB n l (acRes n l) = false ∧ ((cfCode n l (idx l.length) == 4) = doFitB n l) ∧ (cfCode n l (idx l.length) = 0 → minB n l (thRes n l (idx l.length)) = true) := by
  have hn := (trCode_zero h).1
  have hs := idx_set l.length
  have hc := csCode_ok h hs
  refine ⟨?_, ?_, fun h0 => (thin_law h0).2.1⟩
  · rw [acRes, if_pos h, isConfB, acc_fits hn, Bool.and_false]
  · rw [cfCode, if_pos hc, confB, pick_idx, doFitB, h]
    cases fitB n l <;> rfl
theorem cf_code_bad {n : GNet} {l : List GTr} {s : List Int} (h : trCode n l ≠ 0) : cfCode n l s = trCode n l := by
  have hc : csCode n l s = trCode n l := by rw [csCode, if_neg h]
  rw [cfCode, hc, if_neg h]
theorem rel_bad {n : GNet} {l : List GTr} {s : List Int} (h : cfCode n l s = 4) : isConfB n l s = false := by
  rw [isConfB]
  by_cases e : csCode n l s = 0
  · rw [cfCode, if_pos e] at h
    cases hc : confB n l s with
    | false => rw [Bool.and_false]
    | true => rw [hc, if_pos rfl] at h; cases h
  · have : (csCode n l s == 0) = false := by simp [e]
    rw [this, Bool.false_and]
theorem addAt_comm (l : List Int) (i j : Nat) (a b : Int) : addAt (addAt l i a) j b = addAt (addAt l j b) i a := by
  by_cases e : i = j
  · subst e
    unfold addAt
    apply List.ext_getElem?
    intro k
    by_cases ek : i = k
    · subst ek
      by_cases hi : i < l.length
      · simp [hi]; omega
      · rw [List.getElem?_eq_none (by simp; omega), List.getElem?_eq_none (by simp; omega)]
    · simp [ek]
  · unfold addAt
    have e1 : (l.set i (l.getD i 0 + a)).getD j 0 = l.getD j 0 := by simp [e]
    have e2 : (l.set j (l.getD j 0 + b)).getD i 0 = l.getD i 0 := by simp [Ne.symm e]
    rw [e1, e2, List.set_comm _ _ e]
theorem supStep_comm (acc : List Int) (x y : GTr) : supStep (supStep acc x) y = supStep (supStep acc y) x := by
  unfold supStep
  rw [addAt_comm (addAt acc x.entry.toNat x.amount) x.exit.toNat y.entry.toNat, addAt_comm acc x.entry.toNat y.entry.toNat, addAt_comm (addAt (addAt acc y.entry.toNat y.amount) x.entry.toNat x.amount) x.exit.toNat y.exit.toNat, addAt_comm (addAt acc y.entry.toNat y.amount) x.entry.toNat y.exit.toNat]
theorem sup_perm {l m : List GTr} (h : l.Perm m) (acc : List Int) : l.foldl supStep acc = m.foldl supStep acc := by
  induction h generalizing acc with
  | nil => rfl
  | cons x _ ih => exact ih _
  | swap x y l => rw [List.foldl_cons, List.foldl_cons, List.foldl_cons, List.foldl_cons, supStep_comm]
  | trans _ _ h1 h2 => rw [h1, h2]
theorem conf_perm {n : GNet} {l : List GTr} {s t : List Int} (h : s.Perm t) : confB n l s = confB n l t := by
  have hp : (pick l s).Perm (pick l t) := h.map _
  rw [confB, confB, fitB, fitB, supplies, supplies, sup_perm hp]
theorem relTo_mem {p : List Int → Bool} {s : List Int} {k : Nat} {r : Int} (h : r ∈ relTo p s k) : (0 ≤ r ∧ r < (k : Int)) ∧ r ∉ s ∧ p (s ++ [r]) = false := by
  induction k with
  | zero => cases h
  | succ k ih =>
    rw [relTo] at h
    split at h
    · rename_i hc
      rcases List.mem_append.1 h with h | h
      · obtain ⟨a, b⟩ := ih h; exact ⟨by omega, b⟩
      · have e : r = (k : Int) := by simpa using h
        subst e
        simp at hc
        exact ⟨by omega, hc.1, hc.2⟩
    · obtain ⟨a, b⟩ := ih h; exact ⟨by omega, b⟩
/-- The set with one element more, in order. -/
def withTo (s : List Int) (r : Int) (k : Nat) : List Int := (idx k).filter fun z => s.contains z || decide (z = r)
theorem withTo_hit {s : List Int} {r : Int} {k : Nat} (h : (s.contains (k : Int) || decide ((k : Int) = r)) = true) : withTo s r (k + 1) = withTo s r k ++ [(k : Int)] := by
  rw [withTo, idx_succ, List.filter_append, List.filter_cons, if_pos h]; rfl
theorem withTo_miss {s : List Int} {r : Int} {k : Nat} (h : (s.contains (k : Int) || decide ((k : Int) = r)) = false) : withTo s r (k + 1) = withTo s r k := by
  rw [withTo, idx_succ, List.filter_append, List.filter_cons, if_neg (by rw [h]; simp), List.filter_nil, List.append_nil]; rfl
theorem idx_mem {k : Nat} {z : Int} : z ∈ idx k ↔ 0 ≤ z ∧ z < (k : Int) := by
  rw [idx, List.mem_map]
  constructor
  · rintro ⟨i, hi, rfl⟩; have := List.mem_range.1 hi; omega
  · intro h; exact ⟨z.toNat, List.mem_range.2 (by omega), by omega⟩
theorem with_perm {m : Nat} {s : List Int} {r : Int} (hs : Nd m s) (hr : 0 ≤ r ∧ r < (m : Int)) (hn : r ∉ s) : (withTo s r m).Perm (s ++ [r]) := by
  refine (List.perm_ext_iff_of_nodup ((idx_nd m).1.filter _) (hs.snoc hn hr.1 hr.2).1).2 fun z => ?_
  rw [List.mem_filter, idx_mem, List.mem_append]
  simp
  rintro (h | h)
  · exact hs.2 z h
  · subst h; exact hr
theorem with_set {m : Nat} (s : List Int) (r : Int) : setOk ((m : Int) - 1) (withTo s r m) = true := setOk_sub (idx_set m) (List.filter_sublist)
/-- What the law on relievers asks of a reliever. -/
theorem rel_law {n : GNet} {l : List GTr} {s : List Int} (h : cfCode n l s = 0) :
    isConfB n l s = true ∧ ∀ r ∈ reRes n l s, isConfB n l (withTo s r l.length) = false ∧ r ∉ s := by
  obtain ⟨h1, h2⟩ := cfCode_zero h
  obtain ⟨h3, h4⟩ := csCode_zero h1
  refine ⟨by rw [isConfB, h1, h2]; rfl, fun r hr => ?_⟩
  rw [reRes, if_pos h] at hr
  obtain ⟨a, b, c⟩ := relTo_mem hr
  refine ⟨?_, b⟩
  rw [isConfB, conf_perm (with_perm (setOk_nd h4) a b), c, Bool.and_false]
end Go.Proofs.Ytejfpajbkgfiaaa
