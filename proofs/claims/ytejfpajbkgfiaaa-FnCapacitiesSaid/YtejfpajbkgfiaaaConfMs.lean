import Derived.Test.YtejfpajbkgfiaaaCurtMs
import Derived.Test.YtejfpajbkgfiaaaSwitches
import Derived.Deep.RegionLaw
import Derived.Lib.SliceRun
/-
  Plain functions: conflicts of transports and their thinning. No program here.
-/
namespace Go.Proofs.Ytejfpajbkgfiaaa

def noTr : GTr := ⟨0, 0, 0, 0⟩
def pick (l : List GTr) (s : List Int) : List GTr := s.map fun (i : Int) => l.getD i.toNat noTr
noncomputable def confB (n : GNet) (l : List GTr) (s : List Int) : Bool := !fitB n (pick l s)
def Nd (m : Nat) (s : List Int) : Prop := s.Nodup ∧ ∀ z ∈ s, 0 ≤ z ∧ z < (m : Int)
theorem Nd.len {m : Nat} {s : List Int} (h : Nd m s) : s.length ≤ m := by
  induction m generalizing s with
  | zero =>
    cases s with
    | nil => exact Nat.le_refl _
    | cons x s => have := h.2 x (List.mem_cons_self ..); omega
  | succ m ih =>
    have h1 : Nd m (s.erase (m : Int)) := by
      refine ⟨h.1.erase _, fun z hz => ?_⟩
      have hz' := (List.Nodup.mem_erase_iff h.1).1 hz
      have := h.2 z hz'.2
      omega
    have h2 := ih h1
    by_cases e : (m : Int) ∈ s
    · rw [List.length_erase_of_mem e] at h2; omega
    · rw [List.erase_of_not_mem e] at h2; omega
theorem Nd.sub {m : Nat} {s t : List Int} (h : Nd m s) (hs : t.Sublist s) : Nd m t := ⟨h.1.sublist hs, fun z hz => h.2 z (hs.subset hz)⟩
theorem Nd.snoc {m : Nat} {s : List Int} (h : Nd m s) {x : Int} (hx : ¬ x ∈ s) (h0 : 0 ≤ x) (h1 : x < m) : Nd m (s ++ [x]) := by
  refine ⟨List.nodup_append.2 ⟨h.1, by simp, fun a ha b hb e => ?_⟩, fun z hz => ?_⟩
  · simp at hb; subst hb; subst e; exact hx ha
  · rcases List.mem_append.1 hz with hz | hz
    · exact h.2 z hz
    · simp at hz; subst hz; exact ⟨h0, h1⟩
theorem incOk_lt {s : List Int} (h : incOk s = true) (j d : Nat) (hj : j + 1 + d < s.length) : s.getD j 0 < s.getD (j + 1 + d) 0 := by
  have hs : ∀ k, k + 1 < s.length → s.getD k 0 < s.getD (k + 1) 0 := by
    intro k hk
    have := all_range.1 h (k + 1) hk
    simpa [incAt] using this
  induction d with
  | zero => exact hs j hj
  | succ d ih =>
    have h1 := ih (by omega)
    have h2 := hs (j + 1 + d) (by omega)
    have e : j + 1 + (d + 1) = j + 1 + d + 1 := by omega
    rw [e]; omega
theorem setOk_nd {m : Nat} {s : List Int} (h : setOk ((m : Int) - 1) s = true) : Nd m s := by
  have hi : incOk s = true := by rw [setOk_eq, Bool.and_eq_true] at h; exact h.2
  refine ⟨List.pairwise_iff_getElem.2 fun i j hi' hj' hij => ?_, fun z hz => ?_⟩
  · have := incOk_lt hi i (j - i - 1) (by omega)
    have e : i + 1 + (j - i - 1) = j := by omega
    rw [e] at this
    have e1 : s.getD i 0 = s[i] := by simp [hi']
    have e2 : s.getD j 0 = s[j] := by simp [hj']
    rw [e1, e2] at this
    omega
  · obtain ⟨k, hk⟩ := List.mem_iff_getElem?.1 hz
    have := setOk_at h k z hk
    omega
theorem pick_ok {nn : Int} {l : List GTr} {s : List Int} (h : trsOk nn l = true) (hs : Nd l.length s) : trsOk nn (pick l s) = true := by
  obtain ⟨h1, h2⟩ := trsOk_all h
  have hl := hs.len
  refine trsOk_good (by simp [pick]; omega) fun m _ y hy => ?_
  rw [pick, List.getElem?_map] at hy
  cases e : s[m]? with
  | none => rw [e] at hy; cases hy
  | some z =>
    rw [e] at hy
    have hz := hs.2 z (List.mem_of_getElem? e)
    have hg : l[z.toNat]? = some (l[z.toNat]'(by omega)) := List.getElem?_eq_getElem (by omega)
    simp [List.getD_eq_getElem?_getD, hg] at hy
    subst hy
    exact h2 _ _ hg
theorem pick_snoc (l : List GTr) (s : List Int) (x : Int) : pick l (s ++ [x]) = pick l s ++ [l.getD x.toNat noTr] := by simp [pick]
theorem without_eq {s : List Int} (h : s.Nodup) {i : Nat} {x : Int} (hx : s[i]? = some x) : (s.filter fun z => decide (z ≠ x)) = s.take i ++ s.drop (i + 1) := by
  have hi := (List.getElem?_eq_some_iff.1 hx).1
  have e : s = s.take i ++ x :: s.drop (i + 1) := by
    have : s[i] = x := (List.getElem?_eq_some_iff.1 hx).2
    rw [← this, ← List.drop_eq_getElem_cons hi, List.take_append_drop]
  have h' := h
  rw [e] at h'
  obtain ⟨_, h2, h3⟩ := List.nodup_append.1 h'
  have h4 := (List.nodup_cons.1 h2).1
  generalize s.take i = a at *
  generalize s.drop (i + 1) = b at *
  rw [e, List.filter_append, List.filter_cons, if_neg (by simp)]
  have e1 : a.filter (fun z => decide (z ≠ x)) = a := List.filter_eq_self.2 fun z hz => by
    simp only [decide_eq_true_eq]; intro ez; exact h3 z hz x (List.mem_cons_self ..) ez
  have e2 : b.filter (fun z => decide (z ≠ x)) = b := List.filter_eq_self.2 fun z hz => by
    simp only [decide_eq_true_eq]; intro ez; subst ez; exact h4 hz
  rw [e1, e2]
def cutAt (s : List Int) (i : Nat) : List Int := s.take i ++ s.drop (i + 1)
theorem cutAt_sub (s : List Int) (i : Nat) : (cutAt s i).Sublist s := by
  rw [cutAt]
  have := List.Sublist.append (List.Sublist.refl (s.take i)) (List.drop_sublist_drop_left s (Nat.le_succ i))
  rwa [List.take_append_drop] at this
theorem cutAt_len (s : List Int) {i : Nat} (h : i < s.length) : (cutAt s i).length = s.length - 1 := by
  simp [cutAt]; omega
theorem cutAt_mid (a : List Int) (x : Int) (b : List Int) : cutAt (a ++ x :: b) a.length = a ++ b := by
  simp [cutAt]
/-- One pass of thinning: what was kept, and what is still to be looked at. -/
def tpass (p : List Int → Bool) : List Int → List Int → List Int × Bool
  | kept, [] => (kept, false)
  | kept, x :: rest => if p (kept ++ rest) then ((tpass p kept rest).1, true) else tpass p (kept ++ [x]) rest
theorem tpass_hit {p : List Int → Bool} {kept : List Int} {x : Int} {rest : List Int} (h : p (kept ++ rest) = true) : tpass p kept (x :: rest) = ((tpass p kept rest).1, true) := by
  rw [tpass, if_pos h]
theorem tpass_miss {p : List Int → Bool} {kept : List Int} {x : Int} {rest : List Int} (h : p (kept ++ rest) = false) : tpass p kept (x :: rest) = tpass p (kept ++ [x]) rest := by
  rw [tpass, if_neg (by simp [h])]
theorem tpass_sub (p : List Int → Bool) (kept rest : List Int) : (tpass p kept rest).1.Sublist (kept ++ rest) := by
  induction rest generalizing kept with
  | nil => simp [tpass]
  | cons x rest ih =>
    cases h : p (kept ++ rest) with
    | true => rw [tpass_hit h]; exact (ih kept).trans (List.Sublist.append (List.Sublist.refl _) (List.sublist_cons_self ..))
    | false =>
      rw [tpass_miss h]
      have := ih (kept ++ [x])
      simpa using this
theorem tpass_less (p : List Int → Bool) (kept rest : List Int) (h2 : (tpass p kept rest).2 = true) : (tpass p kept rest).1.length < kept.length + rest.length := by
  induction rest generalizing kept with
  | nil => simp [tpass] at h2
  | cons x rest ih =>
    cases h : p (kept ++ rest) with
    | true =>
      rw [tpass_hit h]
      have := (tpass_sub p kept rest).length_le
      simp at this ⊢; omega
    | false =>
      rw [tpass_miss h] at h2 ⊢
      have := ih (kept ++ [x]) h2
      simp at this ⊢; omega
theorem tpass_same (p : List Int → Bool) (kept rest : List Int) (h2 : (tpass p kept rest).2 = false) : (tpass p kept rest).1 = kept ++ rest := by
  induction rest generalizing kept with
  | nil => simp [tpass]
  | cons x rest ih =>
    cases h : p (kept ++ rest) with
    | true => rw [tpass_hit h] at h2; cases h2
    | false =>
      rw [tpass_miss h] at h2 ⊢
      rw [ih _ h2]; simp
/-- Thinning. -/
def tall (p : List Int → Bool) (s : List Int) : List Int :=
  if _h : (tpass p [] s).2 = true then tall p (tpass p [] s).1 else s
termination_by s.length
decreasing_by
  have := tpass_less p [] s (by assumption)
  simpa using this
theorem tall_more {p : List Int → Bool} {s : List Int} (h : (tpass p [] s).2 = true) : tall p s = tall p (tpass p [] s).1 := by
  rw [tall, dif_pos h]
theorem tall_done {p : List Int → Bool} {s : List Int} (h : (tpass p [] s).2 = false) : tall p s = s := by
  rw [tall, dif_neg (by simp [h])]
/-- What is accepted of the first k. -/
def accTo (p : List Int → Bool) : Nat → List Int
  | 0 => []
  | k + 1 => if p (accTo p k ++ [(k : Int)]) then accTo p k else accTo p k ++ [(k : Int)]
theorem accTo_nd (p : List Int → Bool) (k : Nat) : Nd k (accTo p k) := by
  induction k with
  | zero => exact ⟨List.nodup_nil, fun z hz => by cases hz⟩
  | succ k ih =>
    have h1 : Nd (k + 1) (accTo p k) := ⟨ih.1, fun z hz => by have := ih.2 z hz; omega⟩
    rw [accTo]
    split
    · exact h1
    · exact h1.snoc (fun hm => by have := ih.2 _ hm; omega) (by omega) (by omega)
theorem Nd.up {m k : Nat} {s : List Int} (h : Nd m s) (hk : m ≤ k) : Nd k s := ⟨h.1, fun z hz => by have := h.2 z hz; omega⟩
theorem accTo_next (p : List Int → Bool) (k : Nat) {m : Nat} (hk : k < m) : Nd m (accTo p k ++ [(k : Int)]) :=
  ((accTo_nd p k).up (by omega)).snoc (fun hm => by have := (accTo_nd p k).2 _ hm; omega) (by omega) (by omega)
/-- The relievers among the first k. -/
def relTo (p : List Int → Bool) (s : List Int) : Nat → List Int
  | 0 => []
  | k + 1 => if !(s.contains (k : Int)) && !p (s ++ [(k : Int)]) then relTo p s k ++ [(k : Int)] else relTo p s k
theorem relTo_len (p : List Int → Bool) (s : List Int) (k : Nat) : (relTo p s k).length ≤ k := by
  induction k with
  | zero => exact Nat.le_refl _
  | succ k ih =>
    rw [relTo]
    split
    · simp; omega
    · omega
def idx (k : Nat) : List Int := (List.range k).map fun (i : Nat) => (i : Int)
theorem idx_succ (k : Nat) : idx (k + 1) = idx k ++ [(k : Int)] := by simp [idx, List.range_succ]
theorem idx_len (k : Nat) : (idx k).length = k := by simp [idx]
theorem idx_nd (k : Nat) : Nd k (idx k) := by
  induction k with
  | zero => exact ⟨List.nodup_nil, fun z hz => by cases hz⟩
  | succ k ih => rw [idx_succ]; exact (ih.up (by omega)).snoc (fun hm => by have := ih.2 _ hm; omega) (by omega) (by omega)
theorem idx_get {k j : Nat} (h : j < k) : (idx k)[j]? = some (j : Int) := by simp [idx, h]
theorem idx_set (k : Nat) : setOk ((k : Int) - 1) (idx k) = true := by
  refine all_range.2 fun j hj => ?_
  rw [idx_len] at hj
  have e : (idx k).getD j 0 = (j : Int) := by rw [List.getD_eq_getElem?_getD, idx_get hj]; rfl
  rw [setAt, e, Bool.and_eq_true, inB_iff]
  refine ⟨by omega, ?_⟩
  rw [incAt, e]
  by_cases h0 : j = 0
  · simp [h0]
  · have e1 : (idx k).getD (j - 1) 0 = ((j - 1 : Nat) : Int) := by rw [List.getD_eq_getElem?_getD, idx_get (by omega)]; rfl
    rw [e1]; simp; omega
/-- The code of a network, transports and a set of them. -/
def csCode (n : GNet) (l : List GTr) (s : List Int) : Int := if trCode n l = 0 then (if setOk ((l.length : Int) - 1) s then 0 else 2) else trCode n l
theorem csCode_zero {n : GNet} {l : List GTr} {s : List Int} (h : csCode n l s = 0) : trCode n l = 0 ∧ setOk ((l.length : Int) - 1) s = true := by
  by_cases e : trCode n l = 0
  · rw [csCode, if_pos e] at h
    by_cases e' : setOk ((l.length : Int) - 1) s = true
    · exact ⟨e, e'⟩
    · rw [if_neg e'] at h; cases h
  · rw [csCode, if_neg e] at h; exact absurd h e
/-- The code of a set that is to be a conflict. -/
noncomputable def cfCode (n : GNet) (l : List GTr) (s : List Int) : Int := if csCode n l s = 0 then (if confB n l s then 0 else 4) else csCode n l s
noncomputable def minB (n : GNet) (l : List GTr) (s : List Int) : Bool := (csCode n l s == 0) && (confB n l s && (List.range s.length).all fun i => !confB n l (cutAt s i))
end Go.Proofs.Ytejfpajbkgfiaaa
/-
  One element of a row of numbers is deleted: slices.Delete.
-/
namespace Go.Proofs.Ytejfpajbkgfiaaa
open Go.ChangeShapes Go.WideShapes Go.ChangeAt Go.RowKit

theorem grown_then {a b c : World} {r : Option Nat} (h : a.grownBy b r) (k : b.grownBy c r) : a.grownBy c r :=
  ⟨k.os.trans h.os, k.tape.trans h.tape, k.output.trans h.output, Nat.le_trans h.size k.size, fun j hj hn => (k.block j (Nat.lt_of_lt_of_le hj h.size) hn).trans (h.block j hj hn)⟩
theorem own_setCells {base : Nat} {e : TypeId} {n c g : Nat} (ys : List Value) : ∀ {w : World} {xs : List Value} (k : Nat) (_ : w.ownsRow base e 1 (.slice (some ⟨g, 0, none⟩) n c) n xs) (_ : k + ys.length ≤ n),
    (w.setCells g k ys).ownsRow base e 1 (.slice (some ⟨g, 0, none⟩) n c) n (xs.take k ++ ys ++ xs.drop (k + ys.length)) ∧ w.grownBy (w.setCells g k ys) (some g) := by
  induction ys with
  | nil => intro w xs k h _; simpa [World.setCells] using ⟨h, World.grownBy.refl w _⟩
  | cons y ys ih =>
    intro w xs k h hk
    have hl : xs.length = n := by simpa using h.1
    obtain ⟨h1, h2⟩ := h.stored k y
    simp only [List.length_cons] at hk
    obtain ⟨h3, h4⟩ := ih (k + 1) h1 (by omega)
    refine ⟨?_, grown_then h2 h4⟩
    have e1 : (xs.set k y).take (k + 1) = xs.take k ++ [y] := by
      rw [List.take_add_one, List.getElem?_set_self (by omega), List.take_set]
      rw [List.set_eq_of_length_le (by rw [List.length_take]; omega)]; rfl
    have e2 : (xs.set k y).drop (k + 1 + ys.length) = xs.drop (k + (ys.length + 1)) := by
      rw [List.drop_set_of_lt (by omega)]; congr 1; omega
    rw [e1, e2] at h3
    simpa [World.setCells] using h3
theorem own_short {w : World} {base : Nat} {e : TypeId} {n m c g : Nat} {xs : List Value} (h : w.ownsRow base e 1 (.slice (some ⟨g, 0, none⟩) n c) n xs) (hm : m ≤ n) : w.ownsRow base e 1 (.slice (some ⟨g, 0, none⟩) m c) m (xs.take m) := by
  have hl : xs.length = n := by simpa using h.1
  refine ⟨by simp; omega, ?_⟩
  rcases h.2 with ⟨h', _⟩ | ⟨g', cap', cur, h', hb, hg, hnc, hcm, hcs, htake⟩
  · simp at h'
  · simp only [Value.slice.injEq, Option.some.injEq, Addr.mk.injEq, and_true, true_and] at h'
    obtain ⟨rfl, rfl⟩ := h'
    refine .inr ⟨g, c, cur, rfl, hb, hg, by omega, hcm, hcs, ?_⟩
    rw [← htake, List.take_take, Nat.mul_one, Nat.mul_one, Nat.min_eq_left hm]
theorem ints_take (l : List Int) (k : Nat) : (ints l).take k = ints (l.take k) := by simp [ints]
theorem ints_drop (l : List Int) (k : Nat) : (ints l).drop k = ints (l.drop k) := by simp [ints]
theorem ints_app (a b : List Int) : ints a ++ ints b = ints (a ++ b) := by simp [ints]
theorem zero_run {P : Program} {e : TypeId} {i0 : TypeInfo} {z : Value} (hi : P.info? e = some i0) (hz : i0.zero = some z) (W : World) : (zeroValue e).run P W = .ok z W := by
  simp [zeroValue, typeInfo, go_sem, hi, hz]
theorem int_one (x : Int) : (Value.int .i64 x).oneCell' = true := rfl
set_option maxHeartbeats 2000000 in
set_option maxRecDepth 100000 in
theorem deleteInt_any {base g n c : Nat} (zs : List Int) (i : Nat) (v : Int) (w : World) (h : w.ownsRow base 2 1 (.slice (some ⟨g, 0, none⟩) n c) n (ints zs)) (hi : i < n) (hn : n ≤ 1048576) (hv : v = ((i + 1 : Nat) : Int)) :
    Calls Try.prog 119 #[.slice (some ⟨g, 0, none⟩) n c, .int .i64 i, .int .i64 v] w fun e w' => e = .returned (.slice (some ⟨g, 0, none⟩) (n - 1) c) ∧ w'.ownsRow base 2 1 (.slice (some ⟨g, 0, none⟩) (n - 1) c) (n - 1) (ints (cutAt zs i)) ∧ w.grownBy w' (some g) := by
  subst hv
  obtain ⟨j, hj⟩ : ∃ j, j = i + 1 := ⟨_, rfl⟩
  rw [← hj]
  obtain ⟨i0, hi0, hz0, hz1, hz2⟩ := info_parts infoInt64
  obtain ⟨hcap, hcm⟩ := own_cap h
  unfold maxLen at hcm
  have hlen := own_ilen h
  have zv : ∀ W : World, (zeroValue 2).run Try.prog W = .ok (.int .i64 0) W := zero_run hi0 hz0
  obtain ⟨news, hnews⟩ : ∃ news, news = ints (zs.drop j) := ⟨_, rfl⟩
  have hnl : news.length = n - j := by rw [hnews]; simp [ints, hlen]
  have hcell : ∀ t, t < n → w.cell? ⟨g, t, none⟩ = some (.int .i64 (zs.getD t 0)) ∧ w.frozen? ⟨g, t, none⟩ = false := fun t ht => own_int h (get_of_lt (by omega))
  obtain ⟨A, hA, hsrc⟩ : ∃ A : Addr, (if c = j then some (⟨g, 0, none⟩ : Addr) else some ⟨g, j, none⟩) = some A ∧ Hid (∀ t u, news[t]? = some u → w.drew.cell? (A.add t) = some u) := by
    by_cases hc : c = j
    · refine ⟨⟨g, 0, none⟩, by simp [hc], fun t u hu => ?_⟩
      have h0 : news.length = 0 := by omega
      rw [List.length_eq_zero_iff.1 h0] at hu
      simp at hu
    · refine ⟨⟨g, j, none⟩, by simp [hc], fun t u hu => ?_⟩
      have ht : t < n - j := by
        have := (List.getElem?_eq_some_iff.1 hu).1
        rwa [hnl] at this
      have hu' : (zs.drop j)[t]? = some (zs.getD (j + t) 0) := by rw [List.getElem?_drop]; exact get_of_lt (by omega)
      rw [hnews, ints, List.getElem?_map, hu'] at hu
      rw [Addr.add_lit]
      exact (hcell (j + t) (by omega)).1.trans hu
  have s1 : Hid (news.length = (n - j) * 1) := by rw [Nat.mul_one]; exact hnl
  have s2 : Hid (∀ u ∈ news, u.oneCell' = true) := by
    intro u hu
    rw [hnews, ints] at hu
    obtain ⟨x, _, rfl⟩ := List.mem_map.1 hu
    rfl
  have s3 : Hid (∀ t, t < news.length → (w.drew.cell? ⟨g, 0 + i * 1 + t, none⟩).isSome = true ∧ w.drew.frozen? ⟨g, 0 + i * 1 + t, none⟩ = false) := by
    intro t ht
    have := hcell (i + t) (by omega)
    rw [Nat.mul_one, Nat.zero_add]
    exact ⟨by show (w.cell? _).isSome = true; rw [this.1]; rfl, this.2⟩
  obtain ⟨W1, hW1⟩ : ∃ W1, W1 = w.drew.setCells g (0 + i * 1) news := ⟨_, rfl⟩
  obtain ⟨R1, R2⟩ := own_setCells news i (World.ownsRow.drew h) (by omega)
  have hW : Hid (W1 = w.drew.setCells g (0 + i * 1) news) := hW1
  rw [Nat.mul_one, Nat.zero_add] at hW1
  rw [← hW1] at R1 R2
  have hsum : i + (n - j) = n - 1 := by omega
  have hone : n - (i + (n - j)) = 1 := by omega
  have hcl : ∀ ty, (Builtin.clear_ #[33] ty #[.slice (some ⟨g, i + (n - j), none⟩) (n - (i + (n - j))) (c - (i + (n - j)))]).run Try.prog W1 = .ok (.tuple #[]) (W1.setCells g (n - 1) (List.replicate 1 (.int .i64 0))) := fun ty => by
    have hown1 : ∀ t, t < n → ∃ u, W1.cell? ⟨g, t, none⟩ = some u ∧ W1.frozen? ⟨g, t, none⟩ = false := by
      intro t ht
      have hl1 : ((ints zs).take i ++ news ++ (ints zs).drop (i + news.length)).length = n := by simpa using R1.1
      exact ⟨_, (R1.cellAt t (by omega)).trans (List.getElem?_eq_getElem (by rw [hl1]; exact ht)), R1.frozenAt t⟩
    rw [hone, hsum]
    exact Lib.run_clear_slice W1 _ _ ty _ Try.underlying33 zv rfl rfl g (n - 1) 1 _ (by omega) (fun t ht => by obtain ⟨u, h1, _⟩ := hown1 (n - 1 + t) (by omega); rw [h1]; rfl) (fun t ht => by obtain ⟨u, _, h1⟩ := hown1 (n - 1 + t) (by omega); exact h1)
  obtain ⟨R3, R4⟩ := own_setCells (List.replicate 1 (Value.int .i64 0)) (n - 1) R1 (by simp; omega)
  have R5 := own_short R3 (Nat.sub_le n 1)
  have hR : ((((ints zs).take i ++ news ++ (ints zs).drop (i + news.length)).take (n - 1) ++ List.replicate 1 (Value.int .i64 0) ++ ((ints zs).take i ++ news ++ (ints zs).drop (i + news.length)).drop (n - 1 + (List.replicate 1 (Value.int .i64 0)).length)).take (n - 1)) = ints (cutAt zs i) := by
    have e1 : ((ints zs).take i ++ news).length = n - 1 := by simp [hnl, ints, hlen]; omega
    rw [List.take_append_of_le_length (by simp [hnl, ints, hlen]; omega), List.take_append_of_le_length (by simp [hnl, ints, hlen]; omega), List.take_take, Nat.min_self, List.take_append_of_le_length (by omega), List.take_of_length_le (by omega), hnews, hj, ints_take, ints_app]; rfl
  rw [hR] at R5
  have hd : w.grownBy w.drew (some g) := ⟨rfl, rfl, rfl, Nat.le_refl _, fun _ _ _ => rfl⟩
  have hgw : w.grownBy (W1.setCells g (n - 1) (List.replicate 1 (Value.int .i64 0))) (some g) := grown_then (grown_then hd R2) R4
  have Hf := Lib.hid (And.intro R5 hgw)
  have hic : i ≤ c := by omega
  have hjc : j ≤ c := by omega
  have hin : j ≤ n := by omega
  have hij : i < j := by omega
  have hlow : ¬ c = i + (n - j) := by omega
  have heq : ¬ i = j := by omega
  have Hsum := Lib.hid hsum
  clear R1 R2 R3 R4 R5 hR hgw hW1 hcell hnews hnl h hlen zv hd hj hsum hone
  go_enter Try.func119, Try.ntmps119
  go_wp2_with fail
  go_region_law (refine step_append_room rfl (.tmp 22) (.tmp 25) 33 rfl 2 i0 1 Try.underlying33 hi0 hz1 g 0 i c (by simp [Act.eval, Act.put]) A (n - j) (c - j) news (by simp [Act.eval, Act.put]) s1.out hsrc.out s2.out (by omega) s3.out ?_; rw [← hW.out])
  go_wp2_with fail
  go_ret
  exact ⟨by rw [Hsum.out]; rfl, Hf.out.1, Hf.out.2⟩
end Go.Proofs.Ytejfpajbkgfiaaa
