/-
  A region that draws its order of evaluation, walked once, in the order of the text: where every operation, in every world that meets S, leaves a value that does not hang on the world, and a world that meets S.
-/
import Derived.OrdersHeld
import Derived.WalkKit
namespace Go.Proofs.YthhmhigddmimjaaGreat
open Go

/-- In state a, in every world that meets S, operation o leaves v, and a world that meets T; or it is not wanted. -/
def Does (P : Program) (ops : Array Oper) (S T : World → Prop) (o : Oper) (v : Value) (a : Act) : Prop :=
  (Region.wanted o (yielded ops a.tmps) = true ∧ ∀ w, S w → o.wp P a w (fun a' w' => a' = a.put o.dst v ∧ T w') (fun _ _ _ => False)) ∨
  (Region.wanted o (yielded ops a.tmps) = false ∧ v = undef ∧ ∀ w, S w → T w)

/-- What is to hold behind an operation: T behind the last one, S behind the others. -/
def nextS (S T : World → Prop) : List Oper → World → Prop
  | [] => T
  | _ :: _ => S

/-- The walk in the order of the text; the last operation leads from S to T. -/
def wpText (P : Program) (ops : Array Oper) (S T : World → Prop) (R : Act → Prop) : List Oper → Act → Prop
  | [], a => R a
  | o :: rest, a => ∃ v, Does P ops S (nextS S T rest) o v a ∧ wpText P ops S T R rest (a.put o.dst v)

/-- Every operation but the last one has a later one that waits for it: so the last one comes up last. -/
def lastWaits (ops : Array Oper) : Bool := (List.range (ops.size - 1)).all fun i => (List.range ops.size).any fun j => decide (i < j) && match ops[j]? with
  | none => false
  | some o => o.after.any fun e => Region.binds .any e && decide (e.on = i)

/-- What the order of the text must be, so that it tells of all orders. -/
def textOk (ops : Array Oper) : Bool :=
  (List.range ops.size).all fun i => match ops[i]? with
    | none => true
    | some oi =>
      (match oi.op with | .select _ _ => false | _ => true) &&
      (oi.after.all fun e => !Region.binds .any e || decide (e.on < i)) &&
      (List.range ops.size).all fun j => match ops[j]? with
        | none => true
        | some oj => decide (i = j) || match oj.dst with
          | none => true
          | some d => (oi.dst != some d) && (!(oi.looksAt ops).contains d ||
              (decide (j < i) && oi.after.any (fun e => Region.binds .any e && decide (e.on = j))) ||
              (decide (i < j) && oj.after.any (fun e => Region.binds .any e && decide (e.on = i))))

section
variable {P : Program} {ops : Array Oper} {S T : World → Prop}

structure TextOk (ops : Array Oper) : Prop where
  sel : ∀ (i : Nat) (o : Oper), ops[i]? = some o → ∀ cs b, o.op ≠ .select cs b
  back : ∀ (i : Nat) (o : Oper), ops[i]? = some o → ∀ e ∈ o.after, Region.binds .any e = true → e.on < i
  dst : ∀ (i j : Nat) (oi oj : Oper), ops[i]? = some oi → ops[j]? = some oj → i ≠ j → ∀ d, oj.dst = some d → oi.dst ≠ some d
  look : ∀ (i j : Nat) (oi oj : Oper), ops[i]? = some oi → ops[j]? = some oj → i ≠ j → ∀ d, oj.dst = some d → d ∈ oi.looksAt ops →
    (j < i ∧ ∃ e ∈ oi.after, Region.binds .any e = true ∧ e.on = j) ∨ (i < j ∧ ∃ e ∈ oj.after, Region.binds .any e = true ∧ e.on = i)

theorem textOk_spec (h : textOk ops = true) : TextOk ops := by
  have H : ∀ (i : Nat) (oi : Oper), ops[i]? = some oi → ((match oi.op with | .select _ _ => false | _ => true) = true ∧ (∀ e ∈ oi.after, Region.binds .any e = true → e.on < i)) ∧
      ∀ (j : Nat) (oj : Oper), ops[j]? = some oj → i ≠ j → ∀ d, oj.dst = some d → oi.dst ≠ some d ∧ (d ∈ oi.looksAt ops → (j < i ∧ ∃ e ∈ oi.after, Region.binds .any e = true ∧ e.on = j) ∨ (i < j ∧ ∃ e ∈ oj.after, Region.binds .any e = true ∧ e.on = i)) := by
    intro i oi hi
    have hlt : i < ops.size := (Array.getElem?_eq_some_iff.1 hi).1
    unfold textOk at h
    rw [List.all_eq_true] at h
    have h1 := h i (List.mem_range.2 hlt)
    simp only [hi, Bool.and_eq_true] at h1
    obtain ⟨⟨ha, hb⟩, hc⟩ := h1
    refine ⟨⟨ha, fun e he hbi => ?_⟩, fun j oj hj hne d hd => ?_⟩
    · rw [Array.all_eq_true_iff_forall_mem] at hb
      have := hb e he
      simpa [hbi] using this
    · rw [List.all_eq_true] at hc
      have h2 := hc j (List.mem_range.2 (Array.getElem?_eq_some_iff.1 hj).1)
      simp only [hj, hd, hne, decide_false, Bool.false_or, Bool.and_eq_true, bne_iff_ne, Bool.or_eq_true, Bool.not_eq_true', decide_eq_true_eq, Array.any_eq_true', List.contains_eq_mem] at h2
      refine ⟨h2.1, fun hl => ?_⟩
      rcases h2.2 with (h3 | h3) | h3
      · simp [hl] at h3
      · obtain ⟨h4, e, he, h5⟩ := h3
        exact .inl ⟨h4, e, he, by simpa using h5⟩
      · obtain ⟨h4, e, he, h5⟩ := h3
        exact .inr ⟨h4, e, he, by simpa using h5⟩
  refine ⟨fun i o ho cs b e => ?_, fun i o ho => (H i o ho).1.2, fun i j oi oj hi hj hne d hd => ((H i oi hi).2 j oj hj hne d hd).1, fun i j oi oj hi hj hne d hd => ((H i oi hi).2 j oj hj hne d hd).2⟩
  have := (H i o ho).1.1
  rw [e] at this
  cases this

/-- Two states that agree on what o looks at. -/
theorem execOp_agree {a b : Act} {o : Oper} (hs : ∀ cs b, o.op ≠ .select cs b) (h : ∀ t ∈ o.looksAt ops, a.tmps[t]? = b.tmps[t]?) : execOp a.eval o = execOp b.eval o :=
  execOp_congr o hs fun x hx => by
    cases x with
    | tmp t =>
      have := h t (List.mem_append_left _ (List.mem_filterMap.2 ⟨.tmp t, by simpa using hx, rfl⟩))
      simp only [Act.eval, Array.getD_eq_getD_getElem?, this]
    | _ => rfl
theorem wanted_agree {a b : Act} {o : Oper} (h : ∀ t ∈ o.looksAt ops, a.tmps[t]? = b.tmps[t]?) : Region.wanted o (yielded ops a.tmps) = Region.wanted o (yielded ops b.tmps) := by
  unfold Region.wanted
  cases hg : o.guard with
  | none => rfl
  | some gw =>
    obtain ⟨g, want⟩ := gw
    have hy : yielded ops a.tmps g = yielded ops b.tmps g := by
      unfold yielded
      cases ht : (ops[g]?).bind (·.dst) with
      | none => rfl
      | some t => simp [h t (by simp [Oper.looksAt, hg, ht])]
    simp only [hy]
theorem put_agree {a b : Act} {dst : Option Tmp} {u v : Value} (hsz : a.tmps.size = b.tmps.size) (h : a.put dst u = a.put dst v) : b.put dst u = b.put dst v := by
  cases dst with
  | none => rfl
  | some d =>
    by_cases hd : d < a.tmps.size
    · have : u = v := by
        have h1 := congrArg (fun x : Act => x.tmps[d]?) h
        simpa [Act.put, hd] using h1
      rw [this]
    · simp only [Act.put]
      have hd' : b.tmps.size ≤ d := hsz ▸ Nat.not_lt.1 hd
      rw [Array.setIfInBounds_eq_of_size_le hd', Array.setIfInBounds_eq_of_size_le hd']
theorem Does.agree {a b : Act} {o : Oper} {v : Value} (hs : ∀ cs b, o.op ≠ .select cs b) (hsz : a.tmps.size = b.tmps.size) (h : ∀ t ∈ o.looksAt ops, a.tmps[t]? = b.tmps[t]?) (hd : Does P ops S T o v a) : Does P ops S T o v b := by
  rcases hd with ⟨hw, hd⟩ | ⟨hw, rfl, hT⟩
  · refine .inl ⟨by rw [← wanted_agree h]; exact hw, fun w hS => ?_⟩
    have h1 := hd w hS
    unfold Oper.wp at h1 ⊢
    rw [execOp_agree hs h] at h1
    generalize (execOp b.eval o).run P w = r at h1 ⊢
    cases r with
    | ok n w' =>
      cases n <;> simp only [Oper.upon] at h1 ⊢
      case value u => exact ⟨put_agree hsz h1.1, h1.2⟩
      case skip => exact ⟨put_agree hsz h1.1, h1.2⟩
      case defer d =>
        have := congrArg Act.defers h1.1
        cases hdst : o.dst <;> simp [Act.put, hdst] at this
      case enter f args =>
        refine Calls.mono h1 fun e w'' he => ?_
        cases e with
        | returned u => exact ⟨put_agree hsz he.1, he.2⟩
        | panicked c => exact he
        | outgrown => exact he
      case row row args => exact Rows.mono h1 fun u w'' he => ⟨put_agree hsz he.1, he.2⟩
    | halt x w' => cases x <;> simp only [Oper.upon] at h1 ⊢
  · exact .inr ⟨by rw [← wanted_agree h]; exact hw, rfl, hT⟩

/-- What state a holds where the operations of L have come up. -/
structure Held (ops : Array Oper) (vs : Nat → Value) (a0 : Act) (L : Nat → Bool) (a : Act) : Prop where
  defers : a.defers = a0.defers
  size : a.tmps.size = a0.tmps.size
  hit : ∀ (i : Nat) (o : Oper) (d : Tmp), ops[i]? = some o → o.dst = some d → L i = true → d < a0.tmps.size → a.tmps[d]? = some (vs i)
  miss : ∀ t, (∀ (i : Nat) (o : Oper), ops[i]? = some o → L i = true → o.dst ≠ some t) → a.tmps[t]? = a0.tmps[t]?

theorem Held.start (vs : Nat → Value) (a0 : Act) (L : Nat → Bool) (hL : ∀ i, i < ops.size → L i = false) : Held ops vs a0 L a0 :=
  ⟨rfl, rfl, (fun i o d ho _ h => by rw [hL i (Array.getElem?_eq_some_iff.1 ho).1] at h; cases h), fun _ _ => rfl⟩
theorem Held.step {vs : Nat → Value} {a0 a : Act} {L L' : Nat → Bool} {i : Nat} {o : Oper} (ht : TextOk ops) (h : Held ops vs a0 L a) (hi : ops[i]? = some o) (hL : ∀ j, L' j = (L j || decide (j = i))) : Held ops vs a0 L' (a.put o.dst (vs i)) := by
  have hput : ∀ t, (a.put o.dst (vs i)).tmps[t]? = if o.dst = some t ∧ t < a.tmps.size then some (vs i) else a.tmps[t]? := by
    intro t
    cases hd : o.dst with
    | none => simp [Act.put]
    | some d =>
      simp only [Act.put, Array.getElem?_setIfInBounds, Option.some.injEq]
      by_cases e : d = t
      · subst e
        by_cases hlt : d < a.tmps.size <;> simp [hlt]
      · simp [e]
  refine ⟨?_, ?_, fun j oj d hj hd hLj hlt => ?_, fun t hm => ?_⟩
  · cases o.dst <;> simp [Act.put, h.defers]
  · cases o.dst <;> simp [Act.put, h.size]
  · rw [hput]
    by_cases e : j = i
    · subst e
      rw [hi] at hj
      injection hj with hj
      subst hj
      rw [if_pos ⟨hd, by rw [h.size]; exact hlt⟩]
    · rw [if_neg (fun hh => ht.dst i j o oj hi hj (Ne.symm e) d hd hh.1)]
      exact h.hit j oj d hj hd (by have := hL j; rw [hLj] at this; simpa [e] using this.symm) hlt
  · rw [hput, if_neg (fun hh => hm i o hi (by rw [hL]; simp) hh.1)]
    exact h.miss t (fun j oj hj hLj => hm j oj hj (by rw [hL, hLj]; rfl))
/-- Two states that hold the same are the same. -/
theorem Held.unique {vs : Nat → Value} {a0 a b : Act} {L : Nat → Bool} (ha : Held ops vs a0 L a) (hb : Held ops vs a0 L b) : a = b := by
  obtain ⟨ta, da⟩ := a
  obtain ⟨tb, db⟩ := b
  have h1 : da = db := ha.defers.trans hb.defers.symm
  have h2 : ta = tb := by
    apply Array.ext_getElem?
    intro t
    by_cases hex : ∃ (i : Nat) (o : Oper), ops[i]? = some o ∧ L i = true ∧ o.dst = some t
    · obtain ⟨i, o, ho, hL, hd⟩ := hex
      by_cases hlt : t < a0.tmps.size
      · exact (ha.hit i o t ho hd hL hlt).trans (hb.hit i o t ho hd hL hlt).symm
      · rw [Array.getElem?_eq_none (ha.size ▸ Nat.not_lt.1 hlt), Array.getElem?_eq_none (hb.size ▸ Nat.not_lt.1 hlt)]
    · have hm : ∀ (i : Nat) (o : Oper), ops[i]? = some o → L i = true → o.dst ≠ some t := fun i o ho hL hd => hex ⟨i, o, ho, hL, hd⟩
      exact (ha.miss t hm).trans (hb.miss t hm).symm
  rw [h1, h2]
theorem Held.congr {vs : Nat → Value} {a0 a : Act} {L L' : Nat → Bool} (h : Held ops vs a0 L a) (hL : ∀ i, i < ops.size → L i = L' i) : Held ops vs a0 L' a :=
  ⟨h.defers, h.size, fun i o d ho hd hl => h.hit i o d ho hd (by rw [hL i (Array.getElem?_eq_some_iff.1 ho).1]; exact hl), fun t hm => h.miss t (fun i o ho hl => hm i o ho (by rw [← hL i (Array.getElem?_eq_some_iff.1 ho).1]; exact hl))⟩

/-- From the walk in the order of the text: the values, each operation at its own state. -/
theorem wpText_vals {R : Act → Prop} (ht : TextOk ops) (a0 : Act) : ∀ (rest : List Oper) (k : Nat) (vs0 : Nat → Value) (a : Act), ops.toList.drop k = rest → k + rest.length = ops.size → Held ops vs0 a0 (fun i => decide (i < k)) a → wpText P ops S T R rest a →
    ∃ vs : Nat → Value, (∀ i, i < k → vs i = vs0 i) ∧ (∃ aN, Held ops vs a0 (fun _ => true) aN ∧ R aN) ∧ ∀ i o, k ≤ i → ops[i]? = some o → ∃ ai, Held ops vs a0 (fun j => decide (j < i)) ai ∧ Does P ops S (if i + 1 = ops.size then T else S) o (vs i) ai := by
  intro rest
  induction rest with
  | nil =>
    intro k vs0 a hd hk hh hR
    refine ⟨vs0, fun _ _ => rfl, ⟨a, hh.congr (fun i hi => by simp at hk; simp; omega), hR⟩, fun i o hi ho => ?_⟩
    have := (Array.getElem?_eq_some_iff.1 ho).1
    simp at hk
    omega
  | cons o rest ih =>
    intro k vs0 a hd hk hh hR
    obtain ⟨v, hdo, hrest⟩ := hR
    have hko : ops[k]? = some o := by
      have : (ops.toList.drop k)[0]? = some o := by rw [hd]; rfl
      simpa using this
    have hkl : k < ops.size := (Array.getElem?_eq_some_iff.1 hko).1
    let vs1 : Nat → Value := fun i => if i = k then v else vs0 i
    have hh1 : Held ops vs1 a0 (fun i => decide (i < k)) a := ⟨hh.defers, hh.size, fun i oi d hi hdi hl hlt => by
      have : i < k := by simpa using hl
      show a.tmps[d]? = some (if i = k then v else vs0 i)
      rw [if_neg (by omega)]; exact hh.hit i oi d hi hdi hl hlt, hh.miss⟩
    have hh2 : Held ops vs1 a0 (fun i => decide (i < k + 1)) (a.put o.dst v) := by
      have := hh1.step (L' := fun i => decide (i < k + 1)) ht hko (fun j => by simp only [← Bool.decide_or, decide_eq_decide]; omega)
      have e : vs1 k = v := by simp [vs1]
      rw [e] at this
      exact this
    have hd' : ops.toList.drop (k + 1) = rest := by
      have : (ops.toList.drop k).drop 1 = rest := by rw [hd]; rfl
      rw [List.drop_drop] at this
      exact this
    obtain ⟨vs, e1, e2, e3⟩ := ih (k + 1) vs1 (a.put o.dst v) hd' (by simp at hk; omega) hh2 hrest
    refine ⟨vs, fun i hi => by rw [e1 i (by omega)]; simp [vs1]; omega, e2, fun i oi hi ho => ?_⟩
    by_cases e : i = k
    · subst e
      rw [hko] at ho
      injection ho with ho
      subst ho
      have ev : vs i = v := by rw [e1 i (by omega)]; simp [vs1]
      refine ⟨a, ⟨hh.defers, hh.size, fun j oj d hj hdj hl hlt => ?_, hh.miss⟩, by
        rw [ev]
        have et : nextS S T rest = (if i + 1 = ops.size then T else S) := by
          cases rest with
          | nil => rw [if_pos (by simpa using hk)]; rfl
          | cons _ _ => rw [if_neg (by simp at hk; omega)]; rfl
        rw [← et]
        exact hdo⟩
      have hjk : j < i := by simpa using hl
      rw [e1 j (by omega)]
      show a.tmps[d]? = some (if j = i then v else vs0 j)
      rw [if_neg (by omega)]
      exact hh.hit j oj d hj hdj hl hlt
    · exact e3 i oi (by omega) ho

theorem last_all {listed : Array Bool} (hW : lastWaits ops = true) (hcl : ∀ (j : Nat) (oj : Oper), ops[j]? = some oj → listed.getD j false = true → ∀ e ∈ oj.after, Region.binds .any e = true → listed.getD e.on false = true)
    (hl : listed.getD (ops.size - 1) false = true) : ∀ m i, i + m + 1 = ops.size → listed.getD i false = true := by
  intro m
  induction m using Nat.strongRecOn with
  | _ m ih =>
    intro i hi
    by_cases h0 : m = 0
    · have : i = ops.size - 1 := by omega
      rw [this]; exact hl
    · unfold lastWaits at hW
      rw [List.all_eq_true] at hW
      have h1 := hW i (by rw [List.mem_range]; omega)
      rw [List.any_eq_true] at h1
      obtain ⟨j, hj, h2⟩ := h1
      rw [List.mem_range] at hj
      simp only [Bool.and_eq_true, decide_eq_true_eq] at h2
      have hoj : ops[j]? = some ops[j] := Array.getElem?_eq_getElem hj
      rw [hoj] at h2
      obtain ⟨hij, h3⟩ := h2
      simp only [Array.any_eq_true'] at h3
      obtain ⟨e, he, h4⟩ := h3
      simp only [Bool.and_eq_true, decide_eq_true_eq] at h4
      have := hcl j _ hoj (ih (ops.size - 1 - j) (by omega) j (by omega)) e he h4.1
      rw [h4.2] at this
      exact this
theorem wpAny_text {Q : Exit → Act → World → Prop} {vs : Nat → Value} {a0 aN : Act} (ht : TextOk ops) (hN : Held ops vs a0 (fun _ => true) aN) (hQ : ∀ w, T w → Q .normal aN w)
    (hST : (∀ w, S w ↔ T w) ∨ lastWaits ops = true) (hpos : 0 < ops.size)
    (hop : ∀ i o, ops[i]? = some o → ∃ ai, Held ops vs a0 (fun j => decide (j < i)) ai ∧ Does P ops S (if i + 1 = ops.size then T else S) o (vs i) ai) :
    ∀ (fuel : Nat) (listed : Array Bool) (a : Act) (w : World), listed.size = ops.size → Held ops vs a0 (fun i => listed.getD i false) a → (∀ (j : Nat) (oj : Oper), ops[j]? = some oj → listed.getD j false = true → ∀ e ∈ oj.after, Region.binds .any e = true → listed.getD e.on false = true) →
      ((List.range ops.size).filter (fun i => !listed.getD i false)).length ≤ fuel → (if listed.getD (ops.size - 1) false then T w else S w) → wpAny P .any ops Q fuel listed a w := by
  have hfin : ∀ (listed : Array Bool) (a : Act) (w : World), listed.size = ops.size → Held ops vs a0 (fun i => listed.getD i false) a → Region.ready .any ops listed = [] → (if listed.getD (ops.size - 1) false then T w else S w) → Q .normal a w := by
    intro listed a w hsz hh hr hS
    have hall : ∀ i, i < ops.size → listed.getD i false = true := by
      intro i
      induction i using Nat.strongRecOn with
      | _ i ih =>
        intro hi
        cases hl : listed.getD i false with
        | true => rfl
        | false =>
          have ho : ops[i]? = some ops[i] := Array.getElem?_eq_getElem hi
          have : i ∈ Region.ready .any ops listed := by
            rw [mem_ready]
            refine ⟨?_, _, ho, fun e he hb => ?_⟩
            · rw [Array.getD_eq_getD_getElem?, Array.getElem?_eq_getElem (by omega)] at hl ⊢
              exact hl
            · have := ht.back i _ ho e he hb
              exact ih e.on this (by omega)
          rw [hr] at this
          cases this
    have := Held.unique (hh.congr (L' := fun _ => true) (fun i hi => hall i hi)) hN
    rw [this]
    rw [if_pos (hall (ops.size - 1) (by omega))] at hS
    exact hQ w hS
  intro fuel
  induction fuel with
  | zero =>
    intro listed a w hsz hh hcl hfu hS
    have hr : Region.ready .any ops listed = [] := by
      apply List.eq_nil_iff_forall_not_mem.2
      intro j hj
      obtain ⟨h0, o, ho, _⟩ := mem_ready.1 hj
      have hjl := (Array.getElem?_eq_some_iff.1 ho).1
      have hm : j ∈ (List.range ops.size).filter (fun i => !listed.getD i false) := by
        rw [List.mem_filter, List.mem_range]
        refine ⟨hjl, ?_⟩
        rw [Array.getD_eq_getD_getElem?, Array.getElem?_eq_getElem (by omega)] at h0 ⊢
        simpa using h0
      have := List.length_pos_of_mem hm
      omega
    exact ⟨hr, hfin listed a w hsz hh hr hS⟩
  | succ fuel ih =>
    intro listed a w hsz hh hcl hfu hS
    refine ⟨fun hr => hfin listed a w hsz hh hr hS, fun i hi => ?_⟩
    obtain ⟨h0, o, ho, hdep⟩ := mem_ready.1 hi
    have hil := (Array.getElem?_eq_some_iff.1 ho).1
    have hi0 : listed.getD i false = false := by
      rw [Array.getD_eq_getD_getElem?, Array.getElem?_eq_getElem (by omega)] at h0 ⊢
      exact h0
    obtain ⟨ai, hai, hdo⟩ := hop i o ho
    have hlast : i + 1 ≠ ops.size → listed.getD (ops.size - 1) false = true → ∀ w, T w → S w := by
      intro hne hl w1 hT
      rcases hST with hST | hST
      · exact (hST w1).2 hT
      · exfalso
        have h4 := last_all hST hcl hl (ops.size - 1 - i) i (by omega)
        rw [hi0] at h4
        cases h4
    have hSw : S w := by
      by_cases hne : i + 1 = ops.size
      · have : ops.size - 1 = i := by omega
        rw [this, hi0] at hS
        exact hS
      · cases hl : listed.getD (ops.size - 1) false with
        | false => rw [hl] at hS; exact hS
        | true => rw [hl] at hS; exact hlast hne hl w hS
    have hag : ∀ t ∈ o.looksAt ops, ai.tmps[t]? = a.tmps[t]? := by
      intro t htl
      by_cases hlt : t < a0.tmps.size
      · by_cases hex : ∃ (j : Nat) (oj : Oper), ops[j]? = some oj ∧ j ≠ i ∧ oj.dst = some t
        · obtain ⟨j, oj, hj, hne, hd⟩ := hex
          rcases ht.look i j o oj ho hj (Ne.symm hne) t hd htl with ⟨hji, e, he, hb, hon⟩ | ⟨hij, e, he, hb, hon⟩
          · rw [hai.hit j oj t hj hd (by simpa using hji) hlt, hh.hit j oj t hj hd (by rw [← hon]; exact hdep e he hb) hlt]
          · have hjn : listed.getD j false ≠ true := fun hjl => by
              have := hcl j oj hj hjl e he hb
              rw [hon, hi0] at this
              cases this
            rw [hai.miss t (fun k ok hk hlk hdk => ?_), hh.miss t (fun k ok hk hlk hdk => ?_)]
            · by_cases ek : k = j
              · subst ek; exact hjn hlk
              · exact ht.dst k j ok oj hk hj ek t hd hdk
            · have hki : k < i := by simpa using hlk
              exact ht.dst k j ok oj hk hj (by omega) t hd hdk
        · have hno : ∀ (j : Nat) (oj : Oper), ops[j]? = some oj → j ≠ i → oj.dst ≠ some t := fun j oj hj hne hd => hex ⟨j, oj, hj, hne, hd⟩
          rw [hai.miss t (fun k ok hk hlk => hno k ok hk (by have : k < i := by simpa using hlk
                                                             omega)), hh.miss t (fun k ok hk hlk => hno k ok hk (fun e => by subst e; rw [hi0] at hlk; cases hlk))]
      · rw [Array.getElem?_eq_none (hai.size ▸ Nat.not_lt.1 hlt), Array.getElem?_eq_none (hh.size ▸ Nat.not_lt.1 hlt)]
    have hdo' := hdo.agree (ht.sel i o ho) (hai.size.trans hh.size.symm) hag
    have hnext : ∀ w', (if i + 1 = ops.size then T else S) w' → wpAny P .any ops Q fuel (listed.setIfInBounds i true) (a.put o.dst (vs i)) w' := by
      intro w' hS'
      have hget : ∀ j, (listed.setIfInBounds i true).getD j false = (listed.getD j false || decide (j = i)) := by
        intro j
        by_cases e : j = i
        · subst e
          rw [Array.getD_eq_getD_getElem?, Array.getElem?_setIfInBounds, if_pos rfl, if_pos (by omega)]
          simp
        · rw [getD_set_ne false (Ne.symm e)]; simp [e]
      refine ih _ _ w' (by simpa using hsz) (hh.step ht ho hget) (fun j oj hj hlj e he hb => ?_) ?_ ?_
      · by_cases ej : j = i
        · subst ej
          rw [ho] at hj
          injection hj with hj
          subst hj
          exact getD_set_true (hdep e he hb)
        · rw [hget] at hlj
          exact getD_set_true (hcl j oj hj (by simpa [ej] using hlj) e he hb)
      · have hlt : ((List.range ops.size).filter (fun j => !(listed.setIfInBounds i true).getD j false)).length < ((List.range ops.size).filter (fun j => !listed.getD j false)).length := by
          have e : (List.range ops.size).filter (fun j => !(listed.setIfInBounds i true).getD j false) = ((List.range ops.size).filter (fun j => !listed.getD j false)).filter (fun j => decide (j ≠ i)) := by
            rw [List.filter_filter]
            apply List.filter_congr
            intro j _
            rw [hget]
            by_cases e : j = i <;> simp [e]
          rw [e]
          apply List.length_filter_lt_length_iff_exists.2
          exact ⟨i, by rw [List.mem_filter, List.mem_range]; exact ⟨hil, by simp [hi0]⟩, by simp⟩
        omega
      · by_cases hne : i + 1 = ops.size
        · have e : ops.size - 1 = i := by omega
          rw [if_pos hne] at hS'
          rw [hget, e, if_pos (by simp)]
          exact hS'
        · rw [if_neg hne] at hS'
          rw [hget]
          have e : decide (ops.size - 1 = i) = false := by simp; omega
          rw [e, Bool.or_false]
          cases hl : listed.getD (ops.size - 1) false with
          | false => exact hS'
          | true =>
            rcases hST with hST | hST
            · exact (hST w').1 hS'
            · exfalso
              have h4 := last_all hST hcl hl (ops.size - 1 - i) i (by omega)
              rw [hi0] at h4
              cases h4
    unfold wpOp
    simp only [ho]
    rcases hdo' with ⟨hw, hd⟩ | ⟨hw, hv, hT⟩
    · rw [if_pos hw]
      refine .inl ?_
      have h1 := hd w hSw
      unfold Oper.wp at h1 ⊢
      generalize (execOp a.eval o).run P w = r at h1 ⊢
      cases r with
      | ok n w' =>
        cases n <;> simp only [Oper.upon] at h1 ⊢
        case value u => rw [h1.1]; exact hnext _ h1.2
        case skip => rw [h1.1]; exact hnext _ h1.2
        case defer d => rw [h1.1]; exact hnext _ h1.2
        case enter f args =>
          refine Calls.mono h1 fun e w'' he => ?_
          cases e with
          | returned u =>
            obtain ⟨e1, e2⟩ := he
            show wpAny P .any ops Q fuel (listed.setIfInBounds i true) (a.put o.dst u) w''
            rw [e1]
            exact hnext _ e2
          | panicked c => exact he.elim
          | outgrown => obtain ⟨_, _, e⟩ := he; exact e.elim
        case row row args => exact Rows.mono h1 fun u w'' he => by obtain ⟨e1, e2⟩ := he; rw [e1]; exact hnext _ e2
      | halt x w' => cases x <;> simp only [Oper.upon] at h1 ⊢
    · rw [if_neg (by simp [hw])]
      rw [← hv]
      exact hnext w (hT w hSw)

/-- A region that draws its order: one walk, in the order of the text. -/
theorem wp_region_text {Q : Exit → Act → World → Prop} {id : Nat} {a : Act} {w : World} (S : World → Prop) (hm : P.follows .mixedOrders = true) (hok : textOk ops = true) (hpos : 0 < ops.size) (hS : S w.drew)
    (h : wpText P ops S S (fun a' => ∀ w1, S w1 → Q .normal a' w1) ops.toList a) : (Code.region id ops true).wp P Q a w := by
  have ht := textOk_spec hok
  obtain ⟨vs, _, ⟨aN, hN, hQ⟩, hop⟩ := wpText_vals ht a ops.toList 0 (fun _ => undef) a rfl (by simp) (Held.start _ a _ (fun i _ => by simp)) h
  refine wp_region_any hm (wpAny_text ht hN hQ (.inl fun _ => Iff.rfl) hpos (fun i o ho => hop i o (Nat.zero_le _) ho) ops.size _ a _ (by simp) ?_ ?_ ?_ (by simpa using hS))
  · exact Held.start _ a _ (fun i hi => by simp [hi])
  · intro j oj hj hl
    have := (Array.getElem?_eq_some_iff.1 hj).1
    simp [this] at hl
  · exact Nat.le_trans (List.length_filter_le _ _) (by simp)
/-- The same where the last operation (a store) waits for all others and leads from S to T. -/
theorem wp_region_last {Q : Exit → Act → World → Prop} {id : Nat} {a : Act} {w : World} (S T : World → Prop) (hm : P.follows .mixedOrders = true) (hok : (textOk ops && lastWaits ops) = true) (hpos : 0 < ops.size) (hS : S w.drew)
    (h : wpText P ops S T (fun a' => ∀ w1, T w1 → Q .normal a' w1) ops.toList a) : (Code.region id ops true).wp P Q a w := by
  rw [Bool.and_eq_true] at hok
  have ht := textOk_spec hok.1
  obtain ⟨vs, _, ⟨aN, hN, hQ⟩, hop⟩ := wpText_vals ht a ops.toList 0 (fun _ => undef) a rfl (by simp) (Held.start _ a _ (fun i _ => by simp)) h
  refine wp_region_any hm (wpAny_text ht hN hQ (.inr hok.2) hpos (fun i o ho => hop i o (Nat.zero_le _) ho) ops.size _ a _ (by simp) ?_ ?_ ?_ (by simp only [Array.getD_eq_getD_getElem?, Array.getElem?_replicate]; split <;> exact hS))
  · exact Held.start _ a _ (fun i hi => by simp [hi])
  · intro j oj hj hl
    have := (Array.getElem?_eq_some_iff.1 hj).1
    simp [this] at hl
  · exact Nat.le_trans (List.length_filter_le _ _) (by simp)

theorem wpText_skip {R : Act → Prop} {o o' : Oper} {rest : List Oper} {a : Act} (hw : Region.wanted o (yielded ops a.tmps) = false) (h : wpText P ops S T R (o' :: rest) (a.put o.dst undef)) : wpText P ops S T R (o :: o' :: rest) a :=
  ⟨undef, .inr ⟨hw, rfl, fun _ h => h⟩, h⟩
theorem wpText_yield {R : Act → Prop} {o o' : Oper} {rest : List Oper} {a : Act} {v : Value} (hw : Region.wanted o (yielded ops a.tmps) = true) (hy : ∀ w, S w → (execOp a.eval o).run P w = .ok (.value v) w) (h : wpText P ops S T R (o' :: rest) (a.put o.dst v)) : wpText P ops S T R (o :: o' :: rest) a :=
  ⟨v, .inl ⟨hw, fun w hS => by unfold Oper.wp; rw [hy w hS]; exact ⟨rfl, hS⟩⟩, h⟩
theorem wpText_do {R : Act → Prop} {o o' : Oper} {rest : List Oper} {a : Act} (v : Value) (hw : Region.wanted o (yielded ops a.tmps) = true) (hy : ∀ w, S w → ∀ K : Act → World → Prop, (∀ w', S w' → K (a.put o.dst v) w') → o.wp P a w K (fun _ _ _ => False)) (h : wpText P ops S T R (o' :: rest) (a.put o.dst v)) : wpText P ops S T R (o :: o' :: rest) a :=
  ⟨v, .inl ⟨hw, fun w hS => hy w hS _ (fun _ hS' => ⟨rfl, hS'⟩)⟩, h⟩
/-- The last operation. -/
theorem wpText_yield1 {R : Act → Prop} {o : Oper} {a : Act} {v : Value} (hw : Region.wanted o (yielded ops a.tmps) = true) (hy : ∀ w, S w → (execOp a.eval o).run P w = .ok (.value v) w) (h : R (a.put o.dst v)) : wpText P ops S S R [o] a :=
  ⟨v, .inl ⟨hw, fun w hS => by unfold Oper.wp; rw [hy w hS]; exact ⟨rfl, hS⟩⟩, h⟩
theorem wpText_do1 {R : Act → Prop} {o : Oper} {a : Act} (v : Value) (hw : Region.wanted o (yielded ops a.tmps) = true) (hy : ∀ w, S w → ∀ K : Act → World → Prop, (∀ w', T w' → K (a.put o.dst v) w') → o.wp P a w K (fun _ _ _ => False)) (h : R (a.put o.dst v)) : wpText P ops S T R [o] a :=
  ⟨v, .inl ⟨hw, fun w hS => hy w hS _ (fun _ hS' => ⟨rfl, hS'⟩)⟩, h⟩
end
end Go.Proofs.YthhmhigddmimjaaGreat
